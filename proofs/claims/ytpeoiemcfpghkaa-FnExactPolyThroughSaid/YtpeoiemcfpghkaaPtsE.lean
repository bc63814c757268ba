/- The contracts of the coefficients of the polynomial through points, the reference's and the exported ones. Conditions: the lists are short. -/
import Derived.Test.YtpeoiemcfpghkaaPtsF
namespace Go.Proofs.Ytpeoiemcfpghkaa
open Go.RowKit
set_option linter.unusedVariables false

theorem row_part {p : Int} (hp : 0 < p) {xs ys O : List Int} {i : Nat} (hy : 0 ≤ ys.getD i 0 ∧ ys.getD i 0 < p) : List.zipWith (fun o n => (o + n) % p) O (partM p (xs.getD i 0) (ys.getD i 0) (xs.eraseIdx i)) = rowM p xs ys O i := by
  unfold rowM
  rw [partM_eq hp hy, List.zipWith_map_right]
  congr 1
  funext o c
  rw [Int.add_emod, Int.emod_emod, ← Int.add_emod]
  rfl
set_option maxRecDepth 100000 in
set_option maxHeartbeats 1000000 in
theorem c_spec_fpTimes {v : Value} {P : List Int} {p a : Int} {w : World} (h : Ints w v P) (hpl : P.length ≤ 1000) (hp : 2 ≤ p ∧ p ≤ 251) (hb : ∀ z ∈ P, 0 ≤ z ∧ z < p) (ha : 0 ≤ a ∧ a < p) :
    Calls Try.prog 57 #[.int .i64 p, v, .int .i64 a] w (RetI w (timesM p P a)) := by
  obtain ⟨A, c, rfl, hlc, hcm, hrd⟩ := h
  have hp0 : ¬ p = 0 := by omega
  have HPB := Lib.hid hb
  obtain ⟨i0, hi0, hz0, hz1, hz2⟩ := info_parts info_int
  clear hb
  go_enter Try.func57, Try.ntmps57
  go_wp2_with (at_make; refine wpList_make_full _ rfl _ _ 22 rfl w.heap.size 3 i0 (.int .i64 0) 1 Try.underlying22 hi0 hz0 hz1 _ _ _ _ (P.length + 1) rfl rfl rfl rfl (by rw [hz2]; omega) (by unfold maxLen; omega) (Nat.le_refl _) ?_; intro wn hown hg)
  have HN0 := Lib.hid (show OwnI wn w.heap.size (.slice (some ⟨w.heap.size, 0, none⟩) (P.length + 1) (P.length + 1)) (stM p a P 0) by rw [stM_zero]; exact own_made hown)
  have HBN : Hid (Below w.heap.size w wn) := Lib.hid ((Below.refl _ _).grown hg (Nat.le_refl _) (by simp))
  clear hown hg
  go_loopw [16] (fun jj wi => ∃ d : Nat, d ≤ P.length ∧ jj = .int .i64 d ∧ Hid (OwnI wi w.heap.size (.slice (some ⟨w.heap.size, 0, none⟩) (P.length + 1) (P.length + 1)) (stM p a P d)) ∧ Hid (Below w.heap.size w wi)) (fun jj _ => P.length - (intOf jj).toNat)
  case atStart => exact ⟨0, Nat.zero_le _, rfl, HN0, HBN⟩
  case round =>
    obtain ⟨d, hd, rfl, HN, HBI⟩ := hrel
    obtain ⟨wi, rfl⟩ : ∃ W, W = wr := ⟨wr, rfl⟩
    have hd0 : (0 : Int) ≤ (d : Int) := Int.natCast_nonneg _
    by_cases hld : d < P.length
    · obtain ⟨b, o, cc, rfl, hbl, hcc, hcell⟩ := (hrd.below HBI.out).int_at hld
      have hcb := HPB.out cc (List.mem_of_getElem? hcc)
      obtain ⟨v, hv1, hv2, hvb2, hv3⟩ := stM_at (p := p) (a := a) (by omega) hld
      have HS := Lib.hid (stM_step (p := p) (a := a) hcc).2
      rw [← hv3] at HS
      have r1 := HN.out.rd hv1
      have f1 := HN.out.free d
      have HN1 := Lib.hid (HN.out.put d ((v + cc * a) % p))
      have hv2' : ((stM p a P d).set d ((v + cc * a) % p))[d + 1]? = some 0 := by rw [List.getElem?_set_ne (by omega)]; exact hv2
      have r2 := HN1.out.rd hv2'
      have f2 := HN1.out.free (d + 1)
      have HN2 := Lib.hid (HN1.out.put (d + 1) (cc % p))
      have m1 := mul_bd hcb.1 (show cc ≤ 251 by omega) ha.1 (show a ≤ 251 by omega)
      have HBI2 := Lib.hid ((HBI.out.setCell (p := ⟨w.heap.size, d, none⟩) (Nat.le_refl _) (.int .i64 ((v + cc * a) % p))).setCell (p := ⟨w.heap.size, d + 1, none⟩) (Nat.le_refl _) (.int .i64 (cc % p)))
      clear hcc hv1 hv2 hv3 hv2'
      go_wp2
      go_roundw
      case rel => exact ⟨d + 1, by omega, by go_num, by rw [HS.out]; exact HN2, HBI2⟩
      case measure => simp [intOf]; omega
    · obtain rfl : d = P.length := by omega
      go_wp2
      go_ret
      exact RetI.mk (by have := HN.out; rw [stM_all] at this; exact this) HBI.out
noncomputable def polyOM (p : Int) (xs ys : List Int) : Option (List Int) := if ptsB p xs ys then some (polyM p xs ys) else none
theorem polyOM_len (p : Int) (xs ys : List Int) : ((polyOM p xs ys).getD []).length ≤ xs.length := by
  unfold polyOM; split
  · simp [polyM_length]
  · simp
theorem c_impl_PolyThrough {vx vy : Value} {xs ys : List Int} {p : Int} {w : World} (hx : Ints w vx xs) (hy : Ints w vy ys) (hlx : xs.length ≤ 2097152) (hly : ys.length ≤ 2097152) :
    Calls Try.prog 20 #[.int .i64 p, vx, vy] w (RetIB w (polyOM p xs ys)) := by
  have HX := Lib.hid hx
  have HY := Lib.hid hy
  obtain ⟨A, c, rfl, -⟩ := hx
  obtain ⟨A', c', rfl, -⟩ := hy
  rcases hP : ptsB p xs ys with _ | _
  · have HM := Lib.hid (show polyOM p xs ys = none by unfold polyOM; rw [hP]; rfl)
    go_enter Try.func20, Try.ntmps20
    go_wp2_with fail
    refine (c_impl_arePoints HX.out HY.out hlx hly).mono ?_
    rintro e w1 ⟨rfl, hb1⟩
    go_wp2
    go_ret2; rw [HM.out]; exact RetIB.no_below hb1
  · obtain ⟨hpr, hpb, hxb, hyb, hlen, hll, hnd⟩ := ptsB_of hP
    have HXB := Lib.hid hxb
    have HYB := Lib.hid hyb
    have HLL := Lib.hid hll
    clear hpr hxb hyb hll hnd
    have HM := Lib.hid (show polyOM p xs ys = some (polyM p xs ys) by unfold polyOM; rw [hP]; rfl)
    go_enter Try.func20, Try.ntmps20
    go_wp2_with fail
    refine (c_impl_arePoints HX.out HY.out hlx hly).mono ?_
    rintro e w1 ⟨rfl, hb1⟩
    go_wp2_with fail
    refine (c_impl_polyThrough (HX.out.below hb1) (HY.out.below hb1) (by omega) HLL.out hpb HXB.out HYB.out).mono ?_
    rintro e w2 ⟨u, rfl, hu, hb2⟩
    go_wp2
    go_ret2; rw [HM.out]; exact RetIB.yes (hu.mono hb1.size) (below_step hb1 hb2)
set_option maxRecDepth 100000 in
set_option maxHeartbeats 4000000 in
theorem c_spec_PolyThrough {vx vy : Value} {xs ys : List Int} {p : Int} {w : World} (hx : Ints w vx xs) (hy : Ints w vy ys) (hlx : xs.length ≤ 2097152) (hly : ys.length ≤ 2097152) :
    Calls Try.prog 19 #[.int .i64 p, vx, vy] w (RetIB w (polyOM p xs ys)) := by
  have HX := Lib.hid hx
  have HY := Lib.hid hy
  obtain ⟨A, c, rfl, hlc, hcm, hrd⟩ := hx
  obtain ⟨A', c', rfl, hlc', hcm', hrd'⟩ := hy
  rcases hP : ptsB p xs ys with _ | _
  · have HM := Lib.hid (show polyOM p xs ys = none by unfold polyOM; rw [hP]; rfl)
    go_enter Try.func19, Try.ntmps19
    go_wp2_with fail
    refine (c_spec_fpPoints HX.out HY.out hlx hly).mono ?_
    rintro e w1 ⟨rfl, hb1⟩
    go_wp2
    go_ret2; rw [HM.out]; exact RetIB.no_below hb1
  · obtain ⟨hpr, hp, hxb, hyb, hlen, hll, hnd⟩ := ptsB_of hP
    have HBX := Lib.hid hxb
    have HBY := Lib.hid hyb
    have HL := Lib.hid hll
    have hly2 : ys.length ≤ 12 := by omega
    clear hpr hxb hyb hll hnd
    have HM := Lib.hid (show polyOM p xs ys = some (polyM p xs ys) by unfold polyOM; rw [hP]; rfl)
    have hp0 : ¬ p = 0 := by omega
    obtain ⟨i0, hi0, hz0, hz1, hz2⟩ := info_parts info_int
    unfold maxLen at hcm hcm'
    go_enter Try.func19, Try.ntmps19
    go_wp2_with fail
    refine (c_spec_fpPoints HX.out HY.out hlx hly).mono ?_
    rintro e w0 ⟨rfl, hb0⟩
    have HB0 := Lib.hid hb0
    have hz0' : w.heap.size ≤ w0.heap.size := hb0.size
    clear hb0
    go_wp2_with (at_make; refine wpList_make_full _ rfl _ _ 22 rfl w0.heap.size 3 i0 (.int .i64 0) 1 Try.underlying22 hi0 hz0 hz1 _ _ _ _ xs.length rfl rfl rfl rfl (by rw [hz2]; omega) (by unfold maxLen; omega) (Nat.le_refl _) ?_; intro w1 hown hg)
    have HO := Lib.hid (own_made hown)
    have HB : Hid (Below w0.heap.size w0 w1) := Lib.hid ((Below.refl _ _).grown hg (Nat.le_refl _) (by simp))
    clear hown hg
    have hrdx := Lib.hid (hrd.below HB0.out)
    have hrdy := Lib.hid (hrd'.below HB0.out)
    clear hrd hrd'
    go_loopw [28] (fun j wr => ∃ i : Nat, i ≤ ys.length ∧ j = .int .i64 i ∧ Hid (OwnI wr w0.heap.size (.slice (some ⟨w0.heap.size, 0, none⟩) xs.length xs.length) ((List.range i).foldl (rowM p xs ys) (List.replicate xs.length 0))) ∧ Hid (Below w0.heap.size w0 wr)) (fun j _ => ys.length - (intOf j).toNat)
    case atStart => exact ⟨0, Nat.zero_le _, rfl, HO, HB⟩
    case round =>
      obtain ⟨i, hi, rfl, HO, HB⟩ := hrel
      have hi0' : (0 : Int) ≤ (i : Int) := Int.natCast_nonneg _
      by_cases hlt : i < ys.length
      · have hltx : i < xs.length := by have := HL.out; omega
        obtain ⟨b', o', y, rfl, hbl', hyi, hcell'⟩ := (hrdy.out.below HB.out).int_at hlt
        have hyb := HBY.out y (List.mem_of_getElem? hyi)
        have HGY := Lib.hid (show ys.getD i 0 = y from getD_some hyi)
        obtain ⟨b, o, x, rfl, hbl, hxi, hcell⟩ := hrdx.out.int_at (k := i) hltx
        have hxb := HBX.out x (List.mem_of_getElem? hxi)
        have HGX := Lib.hid (show xs.getD i 0 = x from getD_some hxi)
        have hlxi : (i : Int) < (xs.length : Int) := by omega
        clear hxi hyi
        have HRB := Lib.hid (rows_bd (p := p) (by omega) xs ys (i := i) (by omega))
        have HRS := Lib.hid (rows_snoc p xs ys i)
        have HRP := Lib.hid (fun O => row_part (p := p) (xs := xs) (ys := ys) (O := O) (i := i) (by omega) (by rw [HGY.out]; exact hyb))
        generalize (List.range i).foldl (rowM p xs ys) (List.replicate xs.length 0) = O at *
        obtain ⟨wa, rfl⟩ : ∃ W, W = wr := ⟨wr, rfl⟩
        have hza : w0.heap.size < wa.heap.size := HO.out.lt _ rfl
        have HP0 := Lib.hid (show OwnI (wa.alloc (.cells #[.int .i64 y] 3)) (w0.heap.size + 1) (.slice (some ⟨wa.heap.size, 0, none⟩) 1 1) [y] from OwnI.lit (B := w0.heap.size + 1) [y] _ rfl hza (by simp))
        have HO0 := Lib.hid (HO.out.alloc (.cells #[.int .i64 y] 3))
        have HB0' := Lib.hid (HB.out.alloc HB.out.size (.cells #[.int .i64 y] 3))
        go_wp2
        go_loopw [11, 37] (fun pr kk wm => ∃ (k gp L C : Nat) (P : List Int), k ≤ xs.length ∧ kk = .int .i64 k ∧ pr = .slice (some ⟨gp, 0, none⟩) L C ∧ Hid (P = partM p x y ((xs.take k).eraseIdx i)) ∧ Hid (OwnI wm (w0.heap.size + 1) (.slice (some ⟨gp, 0, none⟩) L C) P) ∧ Hid (OwnI wm w0.heap.size (.slice (some ⟨w0.heap.size, 0, none⟩) xs.length xs.length) O) ∧ Hid (Below w0.heap.size w0 wm)) (fun _ kk _ => xs.length - (intOf kk).toNat)
        case atStart => exact ⟨0, wa.heap.size, 1, 1, [y], Nat.zero_le _, rfl, rfl, Lib.hid (by simp [partM]), HP0, HO0, HB0'⟩
        case round =>
          obtain ⟨k, gp, L, C, P, hk, rfl, rfl, HP, HPO, HOO, HBB⟩ := hrel
          obtain ⟨wm, rfl⟩ : ∃ W, W = wr := ⟨wr, rfl⟩
          have hpl : P.length ≤ 1000 := by
            rw [HP.out, partM_eq (by omega) hyb, List.length_map, prodM_length, List.length_eraseIdx]; simp; split <;> omega
          have HPB := Lib.hid (show ∀ z ∈ P, 0 ≤ z ∧ z < p by rw [HP.out]; exact partM_bd (by omega) _ hyb _)
          by_cases hlk : k < xs.length
          · obtain ⟨b2, o2, q, e2, hbl2, hqk, hcq⟩ := (hrdx.out.below HBB.out).int_at hlk
            injection e2 with e2; injection e2 with e21 e22; subst e21 e22
            have hcx := (HBB.out.cell (p := ⟨b, o + i, none⟩) hbl).trans hcell
            have hqb := HBX.out q (List.mem_of_getElem? hqk)
            have HST := Lib.hid (others_step (i := i) hqk)
            clear hqk
            rcases he : ((k : Int) != (i : Int)) with _ | _
            · have HKI := Lib.hid (show k = i by have h9 := he; simp at h9; omega)
              go_wp2
              go_roundw
              case rel => exact ⟨k + 1, gp, L, C, P, by omega, by go_num, rfl, Lib.hid (by rw [HST.out, if_pos HKI.out]; exact HP.out), HPO, HOO, HBB⟩
              case measure => simp [intOf]; omega
            · have hki : ¬ k = i := by have h9 := he; simp at h9; omega
              have h2 := mod_bd (x - q) (p := p) (by omega)
              have h3 := mod_bd (-q) (p := p) (by omega)
              have hib := invM_bd (p := p) (a := (x - q) % p) (by omega)
              have HSN := Lib.hid (show partM p x y ((xs.take (k + 1)).eraseIdx i) = (timesM p P (-q % p)).map (fun c => c * invM p ((x - q) % p) % p) by rw [HST.out, if_neg hki, partM_snoc, ← HP.out])
              have HBM1 := Lib.hid (fun V => c_spec_btMod (a := x - q) (m := p) (w := V) (by omega) (by omega))
              have HBM2 := Lib.hid (fun V => c_spec_btMod (a := -q) (m := p) (w := V) (by omega) (by omega))
              have HIV := Lib.hid (fun V => c_spec_fpInv (p := p) (a := (x - q) % p) (w := V) (by omega) (by omega))
              have HFT := Lib.hid (c_spec_fpTimes (a := -q % p) HPO.out.ints hpl hp HPB.out h3)
              obtain ⟨hL, -⟩ : L = P.length ∧ True := ⟨HPO.out.len, trivial⟩
              subst hL
              generalize invM p ((x - q) % p) = S at *
              generalize (-q) % p = m2 at *
              generalize (x - q) % p = m1 at *
              go_wp2_with (first | (go_at_call_of 56 (Value.int IntKind.i64 (x - q)); refine (HBM1.out _).mono ?_; rintro e w' ⟨rfl, rfl⟩) | (go_at_call_of 56 (Value.int IntKind.i64 (-q)); refine (HBM2.out _).mono ?_; rintro e w' ⟨rfl, rfl⟩) | (go_at_call 55; refine (HIV.out _).mono ?_; rintro e w' ⟨rfl, rfl⟩) | (go_at_call 57; refine HFT.out.mono ?_; rintro e wt ⟨u, rfl, hu, hbt⟩; obtain ⟨gt, ct, rfl, hgt, hgt2, hlt2, hlt3⟩ := own_pos hu (by rw [timesM_length]; omega); have HUT := Lib.hid hu; have HBT := Lib.hid hbt; clear hu hbt))
              have HTL := Lib.hid (timesM_length p P m2)
              have HTB := Lib.hid (timesM_bd (p := p) (by omega) P m2)
              have htl : (timesM p P m2).length ≤ 1001 := by rw [HTL.out]; omega
              generalize timesM p P m2 = T at *
              go_loopw [64] (fun jj wi => ∃ d : Nat, d ≤ T.length ∧ jj = .int .i64 d ∧ Hid (OwnI wi wm.heap.size (.slice (some ⟨gt, 0, none⟩) T.length ct) (mapM' (fun c => c * S % p) T d)) ∧ Hid (Below wm.heap.size wm wi)) (fun jj _ => T.length - (intOf jj).toNat)
              case atStart => exact ⟨0, Nat.zero_le _, rfl, by rw [mapM_zero]; exact HUT, HBT⟩
              case round =>
                obtain ⟨d, hd, rfl, HN, HBI⟩ := hrel
                obtain ⟨wi, rfl⟩ : ∃ W, W = wr := ⟨wr, rfl⟩
                have hd0 : (0 : Int) ≤ (d : Int) := Int.natCast_nonneg _
                by_cases hld : d < T.length
                · obtain ⟨cc, hcc⟩ : ∃ cc, T[d]? = some cc := ⟨_, List.getElem?_eq_getElem hld⟩
                  have hcb := HTB.out cc (List.mem_of_getElem? hcc)
                  have hst := mapM_step (fun c => c * S % p) hcc
                  have r1 := HN.out.rd hst.1
                  have f1 := HN.out.free d
                  have HN1 := Lib.hid (HN.out.put d (cc * S % p))
                  have HST2 := Lib.hid hst.2
                  have m3 := mul_bd hcb.1 (show cc ≤ 251 by omega) hib.1 (show S ≤ 251 by omega)
                  have HBI2 := Lib.hid (HBI.out.setCell (p := ⟨gt, d, none⟩) hgt (.int .i64 (cc * S % p)))
                  clear hcc hst
                  go_wp2
                  go_roundw
                  case rel => exact ⟨d + 1, by omega, by go_num, by have := HN1.out; rw [HST2.out] at this; exact this, HBI2⟩
                  case measure => simp [intOf]; omega
                · obtain rfl : d = T.length := by omega
                  have HN2 := Lib.hid (show OwnI wi (w0.heap.size + 1) (.slice (some ⟨gt, 0, none⟩) T.length ct) (T.map (fun c => c * S % p)) by
                    have := HN.out; rw [mapM_all] at this; exact this.mono (by have := HPO.out.blk; omega))
                  have HOI := Lib.hid (HOO.out.below HBI.out)
                  have HBW := Lib.hid (below_step HBB.out HBI.out)
                  go_wp2
                  go_roundw
                  case rel => exact ⟨k + 1, gt, T.length, ct, _, by omega, by go_num, rfl, Lib.hid HSN.out.symm, HN2, HOI, HBW⟩
                  case measure => simp [intOf]; omega
          · obtain rfl : k = xs.length := by omega
            have hp1 := HP.out
            rw [List.take_length] at hp1
            have HP1 := Lib.hid hp1
            have HPLN := Lib.hid (show P.length = xs.length by rw [hp1, partM_eq (by omega) hyb, List.length_map]; exact prodM_len (p := p) hltx)
            have HLL := Lib.hid (show L = xs.length by rw [HPO.out.len]; exact HPLN.out)
            clear hp1
            have hsm : L ≤ 1000 := by rw [HLL.out]; omega
            go_wp2
            go_loopw [82] (fun jj wo => ∃ d : Nat, d ≤ L ∧ jj = .int .i64 d ∧ Hid (OwnI wo w0.heap.size (.slice (some ⟨w0.heap.size, 0, none⟩) xs.length xs.length) (accM (fun o c => (o + c) % p) O P d)) ∧ Hid (OwnI wo (w0.heap.size + 1) (.slice (some ⟨gp, 0, none⟩) L C) P) ∧ Hid (Below w0.heap.size w0 wo)) (fun jj _ => L - (intOf jj).toNat)
            case atStart => exact ⟨0, Nat.zero_le _, rfl, by rw [accM_zero]; exact HOO, HPO, HBB⟩
            case round =>
              obtain ⟨d, hd, rfl, HOD, HPD, HBD⟩ := hrel
              obtain ⟨wo, rfl⟩ : ∃ W, W = wr := ⟨wr, rfl⟩
              have hd0 : (0 : Int) ≤ (d : Int) := Int.natCast_nonneg _
              by_cases hld : d < L
              · obtain ⟨cc, hcc⟩ : ∃ cc, P[d]? = some cc := ⟨_, List.getElem?_eq_getElem (by have := HPLN.out; have := HLL.out; omega)⟩
                obtain ⟨oc, hoc⟩ : ∃ oc, O[d]? = some oc := ⟨_, List.getElem?_eq_getElem (by have := HRB.out.1; have := HLL.out; omega)⟩
                have hcb := HPB.out cc (List.mem_of_getElem? hcc)
                have hob := HRB.out.2 oc (List.mem_of_getElem? hoc)
                have hpc := HPD.out.rd hcc
                have hstp := accM_step (fun o c => (o + c) % p) (by rw [HPLN.out]; exact HRB.out.1) hoc hcc
                have hocl := HOD.out.rd hstp.1
                have hfr := HOD.out.free d
                have HOD2 := Lib.hid (HOD.out.put d ((oc + cc) % p))
                have HST2 := Lib.hid hstp.2
                have hgp : w0.heap.size + 1 ≤ gp := HPD.out.blk.1
                have HPD2 := Lib.hid (HPD.out.far (p := ⟨w0.heap.size, d, none⟩) (fun g hg => by simp [Value.ownBlock] at hg; simp; omega) (.int .i64 ((oc + cc) % p)))
                have HBD2 := Lib.hid (HBD.out.setCell (p := ⟨w0.heap.size, d, none⟩) (Nat.le_refl _) (.int .i64 ((oc + cc) % p)))
                have hdx : (d : Int) < (xs.length : Int) := by have := HLL.out; omega
                clear hcc hoc hstp
                go_wp2
                go_roundw
                case rel => exact ⟨d + 1, by omega, by go_num, by have := HOD2.out; rw [HST2.out] at this; exact this, HPD2, HBD2⟩
                case measure => simp [intOf]; omega
              · have HE := Lib.hid (show accM (fun o c => (o + c) % p) O P d = rowM p xs ys O i by
                  rw [accM_all _ (by have := HRB.out.1; have := HLL.out; omega) (by have := HPLN.out; have := HLL.out; omega), HP1.out]
                  have := HRP.out O; rw [HGX.out, HGY.out] at this; exact this)
                go_wp2
                go_roundw
                case rel => exact ⟨i + 1, by omega, by go_num, by rw [HRS.out, ← HE.out]; exact HOD, HBD⟩
                case measure => simp [intOf]; omega
      · have HE := Lib.hid (show i = xs.length by have := HL.out; omega)
        go_wp2
        go_ret2
        rw [HM.out]
        exact RetIB.yes (by have := HO.out; rw [HE.out] at this; exact this.mono hz0') (below_step HB0.out HB.out)
end Go.Proofs.Ytpeoiemcfpghkaa
