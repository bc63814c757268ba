/- Contracts of how often each share occurs, and of the laws' comparison of lists of lists that are equal. Conditions: none; the rows are short. -/
import Derived.Test.YtmccfdaaneemfaaHidB
import Derived.Test.YtmccfdaaneemfaaOwnK
import Derived.Test.YtmccfdaaneemfaaScal
namespace Go.Proofs.Ytmccfdaaneemfaa
open Go.RowKit
set_option linter.unusedVariables false

def invF (t v : Int) (P : Nat) (i : Int) : Int := if t = 0 then i else (v - i) % (P : Int)
def cntL (t v : Int) (P k : Nat) : List Int := (List.range P).map fun (i : Nat) => if invF t v P i < (k : Int) then 1 else 0
theorem cntL_length (t v : Int) (P k : Nat) : (cntL t v P k).length = P := by simp [cntL]
theorem inv_inv {v x : Int} {P : Nat} (hx : 0 ≤ x ∧ x < (P : Int)) : (v - (v - x) % (P : Int)) % (P : Int) = x := by
  rw [Int.sub_emod, Int.emod_emod, ← Int.sub_emod, show v - (v - x) = x by omega]
  exact Int.emod_eq_of_lt hx.1 hx.2
theorem cntL_zero (t v : Int) (P : Nat) : cntL t v P 0 = List.replicate P 0 := by
  refine List.ext_getElem (by simp [cntL]) fun i h1 h2 => ?_
  have hi : i < P := by simpa [cntL] using h1
  have h0 : 0 ≤ invF t v P i := by
    unfold invF; split
    · omega
    · exact Int.emod_nonneg _ (by omega)
  simp only [cntL, List.getElem_map, List.getElem_range, List.getElem_replicate]
  rw [if_neg (by omega)]
theorem cntL_all (t v : Int) (P : Nat) : cntL t v P P = List.replicate P 1 := by
  refine List.ext_getElem (by simp [cntL]) fun i h1 h2 => ?_
  have hi : i < P := by simpa [cntL] using h1
  have h0 : invF t v P i < (P : Int) := by
    unfold invF; split
    · omega
    · exact Int.emod_lt_of_pos _ (by omega)
  simp only [cntL, List.getElem_map, List.getElem_range, List.getElem_replicate]
  rw [if_pos h0]
/-- The place that the k-th pair counts. -/
def keyF (t v : Int) (P k : Nat) : Nat := if t = 0 then k else ((v - k) % (P : Int)).toNat
theorem keyF_lt {t v : Int} {P k : Nat} (h : k < P) : keyF t v P k < P := by
  unfold keyF; split
  · exact h
  · have := Int.emod_lt_of_pos (v - k) (show (0 : Int) < P by omega)
    have := Int.emod_nonneg (v - k) (show (P : Int) ≠ 0 by omega); omega
theorem inv_key {t v : Int} {P k i : Nat} (hk : k < P) (hi : i < P) : invF t v P i = (k : Int) ↔ keyF t v P k = i := by
  unfold invF keyF
  split
  · omega
  · have h1 := inv_inv (v := v) (x := (k : Int)) (P := P) (by omega)
    have h2 := inv_inv (v := v) (x := (i : Int)) (P := P) (by omega)
    have h3 := Int.emod_nonneg (v - k) (show (P : Int) ≠ 0 by omega)
    constructor
    · intro e; rw [e] at h2; omega
    · intro e
      have : (v - (k : Int)) % (P : Int) = (i : Int) := by omega
      rw [this] at h1; exact h1
theorem cntL_key {t v : Int} {P k : Nat} (hk : k < P) : (cntL t v P k)[keyF t v P k]? = some 0 := by
  have hq := keyF_lt (t := t) (v := v) hk
  rw [List.getElem?_eq_getElem (by rw [cntL_length]; exact hq)]
  simp only [cntL, List.getElem_map, List.getElem_range]
  rw [(inv_key hk hq).2 rfl, if_neg (by omega)]
theorem cntL_step {t v : Int} {P k : Nat} (hk : k < P) : (cntL t v P k).set (keyF t v P k) 1 = cntL t v P (k + 1) := by
  refine List.ext_getElem (by simp [cntL]) fun i h1 h2 => ?_
  have hi : i < P := by simpa [cntL] using h2
  rw [List.getElem_set]
  have hik := inv_key (t := t) (v := v) hk hi
  by_cases e : keyF t v P k = i
  · rw [if_pos e]
    simp only [cntL, List.getElem_map, List.getElem_range]
    rw [hik.2 e, if_pos (by omega)]
  · rw [if_neg e]
    have hne : invF t v P i ≠ (k : Int) := fun h => e (hik.1 h)
    simp only [cntL, List.getElem_map, List.getElem_range]
    by_cases h : invF t v P i < (k : Int)
    · rw [if_pos h, if_pos (by omega)]
    · rw [if_neg h, if_neg (by omega)]
noncomputable def countM (p v t : Int) : Option (List Int) := if elemB p v && inB t 0 1 then some (List.replicate p.toNat 1) else none
theorem grown_set2 (w : World) (p : Addr) (u : Value) : w.grownBy (w.setCell p u) (some p.block) := ⟨rfl, rfl, rfl, by simp, fun k _ hk => Below.heap_setCell _ _ _ _ (fun e => hk (by rw [e]))⟩
theorem own_at2 {w : World} {B : Nat} {v : Value} {l : List Int} (h : OwnI w B v l) (hl : l ≠ []) : ∃ g c, v = .slice (some ⟨g, 0, none⟩) l.length c ∧ B ≤ g ∧ g < w.heap.size ∧ ∀ j x, l[j]? = some x → w.cell? ⟨g, j, none⟩ = some (.int .i64 x) := by
  obtain ⟨g, c, rfl, h1, h2, h3, h4⟩ := own_pos h (List.length_pos_iff.2 hl)
  refine ⟨g, c, rfl, h1, h2, fun j x hx => ?_⟩
  have hj := (List.getElem?_eq_some_iff.1 hx).1
  have := h.cellAt j (by simpa using hj)
  rw [this]; simp [hx]
set_option maxRecDepth 100000 in
set_option maxHeartbeats 4000000 in
theorem c_impl_ShareCounts {p v t : Int} {w : World} : Calls Try.prog 26 #[.int .i64 p, .int .i64 v, .int .i64 t] w (RetIB w (countM p v t)) := by
  obtain ⟨i0, hi0, hz0, hz1, hz2⟩ := info_parts info_int
  rcases he : elemB p v with _ | _
  · have HM := Lib.hid (show countM p v t = none by unfold countM; rw [he]; rfl)
    have HPM := Lib.hid (show pairsM p v = none by unfold pairsM; rw [he]; rfl)
    go_enter Try.func26, Try.ntmps26
    go_wp2_with fail
    refine (c_impl_PairsFor).mono ?_
    rintro e w1 ⟨u, vs, rfl, hu, hb1⟩
    rw [HPM.out]
    have HB1 := Lib.hid hb1
    clear hu hb1
    go_wp2
    go_ret2; rw [HM.out]; exact RetIB.no_below HB1.out
  have hb := elemB_bd he
  obtain ⟨P, rfl⟩ := Int.eq_ofNat_of_zero_le (show 0 ≤ p by omega)
  have HPM := Lib.hid (show pairsM (P : Int) v = some (pairsN P v P) by unfold pairsM; rw [he]; rfl)
  have HPL := Lib.hid (pairsN_length (P : Int) v P)
  rcases ht : inB t 0 1 with _ | _
  · have HM := Lib.hid (show countM (P : Int) v t = none by unfold countM; rw [ht, Bool.and_false]; rfl)
    go_enter Try.func26, Try.ntmps26
    go_wp2_with fail
    refine (c_impl_PairsFor).mono ?_
    rintro e w1 ⟨u, vs, rfl, hu, hb1⟩
    rw [HPM.out]
    have HB1 := Lib.hid hb1
    clear hu hb1
    go_wp2_with fail
    refine (c_impl_isBit).mono ?_
    rintro e w' ⟨rfl, rfl⟩
    rw [ht]
    go_wp2
    go_ret2; rw [HM.out]; exact RetIB.no_below HB1.out
  have HM := Lib.hid (show countM (P : Int) v t = some (List.replicate P 1) by unfold countM; rw [he, ht]; rfl)
  have htb := inB_bd ht
  go_enter Try.func26, Try.ntmps26
  go_wp2_with fail
  refine (c_impl_PairsFor).mono ?_
  rintro e w1 ⟨u, vs, rfl, hu, hb1⟩
  rw [HPM.out] at hu ⊢
  have HU := Lib.hid (show OwnRs w1 w.heap.size u vs (pairsN P v P) from hu)
  obtain ⟨Au, cu, rfl, -⟩ := HU.out.rowsIn.form
  have HB1 := Lib.hid hb1
  have hz := hb1.size
  clear hu hb1
  go_wp2_with fail
  refine (c_impl_isBit).mono ?_
  rintro e w' ⟨rfl, rfl⟩
  rw [ht]
  go_wp2_with (at_make; refine wpList_make_full _ rfl _ _ 32 rfl w.heap.size 3 i0 (.int .i64 0) 1 Try.underlying32 hi0 hz0 hz1 _ _ _ _ P rfl rfl rfl rfl (by rw [hz2]; omega) (by unfold maxLen; omega) (hz) ?_; intro w2 hown hg; have HZ := Lib.hid (own_made hown); have hb2 : Below w1.heap.size w1 w2 := ((Below.refl _ _).grown hg (Nat.le_refl _) (by simp)); clear hown hg)
  obtain ⟨gz, hgz⟩ : ∃ g, w1.heap.size = g := ⟨_, rfl⟩
  have HB2 := Lib.hid hb2
  have HGZ : Hid (w1.heap.size ≤ gz) := Lib.hid (Nat.le_of_eq hgz)
  rw [hgz] at HZ ⊢
  clear hb2 hgz
  rw [HPL.out]
  go_wp2
  go_loopw [30] (fun i wr => ∃ k : Nat, k ≤ P ∧ i = .int .i64 k ∧ Hid (OwnI wr w.heap.size (.slice (some ⟨gz, 0, none⟩) P P) (cntL t v P k)) ∧ Hid (Below w1.heap.size w1 wr)) (fun i _ => P - (intOf i).toNat)
  case atStart => exact ⟨0, Nat.zero_le _, rfl, Lib.hid (by rw [cntL_zero]; exact HZ.out), HB2⟩
  case round =>
    obtain ⟨k, hk, rfl, HO, HB⟩ := hrel
    obtain ⟨wa, rfl⟩ : ∃ W, W = wr := ⟨wr, rfl⟩
    by_cases hlt : k < P
    · obtain ⟨g, c, u, r, A', c', eu, -, -, hvu, hrr, eA, hcu, hor⟩ := (HU.out.below HB.out).at_ (k := k) (by rw [HPL.out]; exact hlt)
      injection eu with eu1 eu2 eu3
      subst eu1 eA
      rw [pairsN_at hlt] at hrr
      injection hrr with hrr
      subst hrr
      obtain ⟨gr, cr, er, -, hgr, hcr⟩ := own_at2 hor (by simp)
      injection er with er1 er2 er3
      subst er1
      have r0 := hcr 0 _ rfl
      have r1 := hcr 1 _ rfl
      have hd := And.intro (Int.emod_nonneg (v - k) (show (P : Int) ≠ 0 by omega)) (Int.emod_lt_of_pos (v - k) (show (0 : Int) < P by omega))
      obtain ⟨d, hd2⟩ := Int.eq_ofNat_of_zero_le hd.1
      rw [hd2] at r1 hd
      have HST := Lib.hid (cntL_step (t := t) (v := v) hlt)
      have hky := cntL_key (t := t) (v := v) hlt
      have hkl := keyF_lt (t := t) (v := v) hlt
      have hcg := HO.out.rd hky
      have hfz := HO.out.free (keyF t v P k)
      have hk0 : (0 : Int) ≤ (k : Int) := Int.natCast_nonneg _
      have hd0 : (0 : Int) ≤ (d : Int) := Int.natCast_nonneg _
      have hdP : (d : Int) < (P : Int) := by omega
      have hkP : (k : Int) < (P : Int) := by omega
      have HPLk : (k : Int) < ((pairsN (P : Int) v P).length : Int) := by rw [HPL.out]; exact hkP
      have HPL3 := HPL.out
      have HPUT := Lib.hid (HO.out.put (keyF t v P k) 1)
      rw [HST.out] at HPUT
      have hgzw : gz < wa.heap.size := HO.out.lt gz rfl
      have HSB := Lib.hid (HB.out.setCell (p := ⟨gz, keyF t v P k, none⟩) HGZ.out (.int .i64 1))
      rcases (show t = 0 ∨ t = 1 by omega) with rfl | rfl
      · have hkf : keyF 0 v P k = k := rfl
        rw [hkf] at hcg hfz HPUT HSB
        clear hky hkl hkf r1 hvu hcr er2 er3 hor HST HO HB
        rw [HPL3] at HPLk
        clear HPL3
        go_wp2
        go_roundw
        case rel => exact ⟨k + 1, by omega, by go_num, HPUT, HSB⟩
        case measure => simp [intOf]; omega
      · have hkf : keyF 1 v P k = d := by unfold keyF; rw [if_neg (by omega), hd2]; rfl
        rw [hkf] at hcg hfz HPUT HSB
        clear hky hkl hkf r0 hvu hcr er2 er3 hor HST HO HB
        rw [HPL3] at HPLk
        clear HPL3
        go_wp2
        go_roundw
        case rel => exact ⟨k + 1, by omega, by go_num, HPUT, HSB⟩
        case measure => simp [intOf]; omega
    · obtain rfl : k = P := by omega
      have HO2 := HO.out
      rw [cntL_all] at HO2
      replace HO2 := Lib.hid HO2
      clear HO
      go_wp2
      go_ret2; rw [HM.out]
      exact RetIB.yes HO2.out (below_step HB1.out HB.out)
set_option maxRecDepth 100000 in
set_option maxHeartbeats 4000000 in
theorem c_spec_ShareCounts {p v t : Int} {w : World} : Calls Try.prog 27 #[.int .i64 p, .int .i64 v, .int .i64 t] w (RetIB w (countM p v t)) := by
  obtain ⟨i0, hi0, hz0, hz1, hz2⟩ := info_parts info_int
  have HL := Lib.hid ((Below.refl w.heap.size w).alloc (Nat.le_refl _) (.cells #[.int .i64 v] 3))
  have HF := Lib.hid (c_spec_fpIn (p := p) (ints_lit w [v] #[.int .i64 v] rfl (by simp)) (by simp))
  rw [fpInB_one] at HF
  rcases he : elemB p v with _ | _
  · have HM := Lib.hid (show countM p v t = none by unfold countM; rw [he]; rfl)
    go_enter Try.func27, Try.ntmps27
    go_wp2_with fail
    refine HF.out.mono ?_
    rintro e w' ⟨rfl, rfl⟩
    rw [he]
    go_wp2
    go_ret2; rw [HM.out]; exact RetIB.no_below HL.out
  have hb := elemB_bd he
  obtain ⟨P, rfl⟩ := Int.eq_ofNat_of_zero_le (show 0 ≤ p by omega)
  have HPL := Lib.hid (pairsN_length (P : Int) v P)
  rcases ht : inB t 0 1 with _ | _
  · have HM := Lib.hid (show countM (P : Int) v t = none by unfold countM; rw [ht, Bool.and_false]; rfl)
    go_enter Try.func27, Try.ntmps27
    go_wp2_with fail
    refine HF.out.mono ?_
    rintro e w' ⟨rfl, rfl⟩
    rw [he]
    go_wp2_with fail
    refine (c_spec_l1In).mono ?_
    rintro e w' ⟨rfl, rfl⟩
    rw [ht]
    go_wp2
    go_ret2; rw [HM.out]; exact RetIB.no_below HL.out
  have HM := Lib.hid (show countM (P : Int) v t = some (List.replicate P 1) by unfold countM; rw [he, ht]; rfl)
  have htb := inB_bd ht
  go_enter Try.func27, Try.ntmps27
  go_wp2_with fail
  refine HF.out.mono ?_
  rintro e w' ⟨rfl, rfl⟩
  rw [he]
  go_wp2_with fail
  refine (c_spec_l1In).mono ?_
  rintro e w' ⟨rfl, rfl⟩
  rw [ht]
  obtain ⟨w1, hw1⟩ : ∃ W, w.alloc (.cells #[.int .i64 v] 3) = W := ⟨_, rfl⟩
  rw [hw1] at HL ⊢
  clear HF hw1
  have hz := HL.out.size
  go_wp2_with (at_make; refine wpList_make_full _ rfl _ _ 32 rfl w.heap.size 3 i0 (.int .i64 0) 1 Try.underlying32 hi0 hz0 hz1 _ _ _ _ P rfl rfl rfl rfl (by rw [hz2]; omega) (by unfold maxLen; omega) (hz) ?_; intro w2 hown hg; have HZ := Lib.hid (own_made hown); have hb2 : Below w1.heap.size w1 w2 := ((Below.refl _ _).grown hg (Nat.le_refl _) (by simp)); clear hown hg)
  obtain ⟨gz, hgz⟩ : ∃ g, w1.heap.size = g := ⟨_, rfl⟩
  have hgzlt : w1.heap.size < w2.heap.size := HZ.out.lt _ rfl
  refine (c_spec_shPairs hb).mono ?_
  rintro e w3 ⟨u, vs, rfl, hu, hb3⟩
  obtain ⟨Au, cu, rfl, -⟩ := hu.rowsIn.form
  have HU := Lib.hid hu
  have HB2 := Lib.hid (below_step hb2 hb3)
  replace HZ := Lib.hid (HZ.out.below hb3)
  have HGZ : Hid (w1.heap.size ≤ gz) := Lib.hid (Nat.le_of_eq hgz)
  rw [hgz] at HZ ⊢
  have HGL : Hid (gz < w2.heap.size) := Lib.hid (by omega)
  clear hb2 hb3 hgz hgzlt hu
  go_wp2_with fail
  try rw [HPL.out]
  try go_wp2
  go_loopw [27] (fun i wr => ∃ k : Nat, k ≤ P ∧ i = .int .i64 k ∧ Hid (OwnI wr w.heap.size (.slice (some ⟨gz, 0, none⟩) P P) (cntL t v P k)) ∧ Hid (OwnRs wr w2.heap.size (.slice Au (pairsN (P : Int) v P).length cu) vs (pairsN P v P)) ∧ Hid (Below w1.heap.size w1 wr)) (fun i _ => P - (intOf i).toNat)
  case atStart => exact ⟨0, Nat.zero_le _, rfl, Lib.hid (by rw [cntL_zero]; exact HZ.out), HU, HB2⟩
  case round =>
    obtain ⟨k, hk, rfl, HO, HR, HB⟩ := hrel
    obtain ⟨wa, rfl⟩ : ∃ W, W = wr := ⟨wr, rfl⟩
    by_cases hlt : k < P
    · obtain ⟨g, c, u, r, A', c', eu, -, -, hvu, hrr, eA, hcu, hor⟩ := HR.out.at_ (k := k) (by rw [HPL.out]; exact hlt)
      injection eu with eu1 eu2 eu3
      subst eu1 eA
      rw [pairsN_at hlt] at hrr
      injection hrr with hrr
      subst hrr
      obtain ⟨gr, cr, er, -, hgr, hcr⟩ := own_at2 hor (by simp)
      injection er with er1 er2 er3
      subst er1
      have r0 := hcr 0 _ rfl
      have r1 := hcr 1 _ rfl
      have hd := And.intro (Int.emod_nonneg (v - k) (show (P : Int) ≠ 0 by omega)) (Int.emod_lt_of_pos (v - k) (show (0 : Int) < P by omega))
      obtain ⟨d, hd2⟩ := Int.eq_ofNat_of_zero_le hd.1
      rw [hd2] at r1 hd
      have HST := Lib.hid (cntL_step (t := t) (v := v) hlt)
      have hky := cntL_key (t := t) (v := v) hlt
      have hkl := keyF_lt (t := t) (v := v) hlt
      have hcg := HO.out.rd hky
      have hfz := HO.out.free (keyF t v P k)
      have hk0 : (0 : Int) ≤ (k : Int) := Int.natCast_nonneg _
      have hd0 : (0 : Int) ≤ (d : Int) := Int.natCast_nonneg _
      have hdP : (d : Int) < (P : Int) := by omega
      have hkP : (k : Int) < (P : Int) := by omega
      have HPLk : (k : Int) < ((pairsN (P : Int) v P).length : Int) := by rw [HPL.out]; exact hkP
      have HPL3 := HPL.out
      have HPUT := Lib.hid (HO.out.put (keyF t v P k) 1)
      rw [HST.out] at HPUT
      have hgzw : gz < wa.heap.size := HO.out.lt gz rfl
      have HSB := Lib.hid (HB.out.setCell (p := ⟨gz, keyF t v P k, none⟩) HGZ.out (.int .i64 1))
      have HRN := Lib.hid (HR.out.only (F := [.slice (some ⟨gz, 0, none⟩) 0 0]) (Only.ofGrown (v := .slice (some ⟨gz, 0, none⟩) 0 0) (grown_set2 wa ⟨gz, keyF t v P k, none⟩ (.int .i64 1)) (by simp)) (fun x hx y hy b e e' => by
        simp at hx; subst hx
        have e2 : gz = b := by simpa [Value.ownBlock] using e
        have := (HR.out.bd y hy b e').1
        have := HGL.out
        omega))
      rcases (show t = 0 ∨ t = 1 by omega) with rfl | rfl
      · have hkf : keyF 0 v P k = k := rfl
        rw [hkf] at hcg hfz HPUT HSB HRN
        clear hky hkl hkf r1 hvu hcr er2 er3 hor HST HO HB HR
        rw [HPL3] at HPLk
        clear HPL3
        go_wp2
        go_roundw
        case rel => exact ⟨k + 1, by omega, by go_num, HPUT, HRN, HSB⟩
        case measure => simp [intOf]; omega
      · have hkf : keyF 1 v P k = d := by unfold keyF; rw [if_neg (by omega), hd2]; rfl
        rw [hkf] at hcg hfz HPUT HSB HRN
        clear hky hkl hkf r0 hvu hcr er2 er3 hor HST HO HB HR
        rw [HPL3] at HPLk
        clear HPL3
        go_wp2
        go_roundw
        case rel => exact ⟨k + 1, by omega, by go_num, HPUT, HRN, HSB⟩
        case measure => simp [intOf]; omega
    · obtain rfl : k = P := by omega
      have HO2 := HO.out
      rw [cntL_all] at HO2
      replace HO2 := Lib.hid HO2
      clear HO
      go_wp2
      go_ret2; rw [HM.out]
      exact RetIB.yes HO2.out (below_step HL.out HB.out)
end Go.Proofs.Ytmccfdaaneemfaa
