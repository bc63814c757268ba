/- The walk of the law FnFields: its Go text returns true for every input. No condition. -/
import Derived.Test.YtmccfdaaneemfaaDrawF
import Derived.Test.YtmccfdaaneemfaaFld
import Derived.Deep.DeepCutAuto
namespace Go.Proofs.Ytmccfdaaneemfaa
open Go.RowKit
set_option linter.unusedVariables false

theorem invM_of {p b : Int} (hp : PrimeP p) (hb : 0 < b) (hbp : b < p) : invM p b * b % p = 1 := by
  have := inv_mul hp (a := b) (not_dvd_small (by omega) (by omega))
  rw [Int.mul_comm]; exact this
/-- What a quotient's parts say. -/
theorem divM_of {p a b : Int} (h : (divModM p a b).isSome = true) : divModM p a b = some (a * invM p b % p) ∧ mulModM p (a * invM p b % p) b = some a ∧ invModM p b = some (invM p b) ∧ mulModM p (invM p b) b = some 1 := by
  unfold divModM at h
  split at h
  case isFalse => cases h
  case isTrue hc =>
    simp only [Bool.and_eq_true, Bool.not_eq_true', beq_eq_false_iff_ne] at hc
    obtain ⟨⟨ha, hb⟩, h0⟩ := hc
    have ba := elemB_bd ha
    have bb := elemB_bd hb
    have hp := elemB_prime ha
    have hi := invM_bd (a := b) (show 0 < p by omega)
    have h1 := invM_of hp (show 0 < b by omega) (show b < p by omega)
    have hf := elemB_fld ha
    have hq : 0 ≤ a * invM p b % p ∧ a * invM p b % p < p := ⟨Int.emod_nonneg _ (by omega), Int.emod_lt_of_pos _ (by omega)⟩
    have e1 : elemB p (invM p b) = true := by unfold elemB; rw [hf, inB_mk (by omega) (by omega)]; rfl
    have e2 : elemB p (a * invM p b % p) = true := by unfold elemB; rw [hf, inB_mk (by omega) (by omega)]; rfl
    have hbn : (b == 0) = false := by simpa using h0
    refine ⟨?_, ?_, ?_, ?_⟩
    · unfold divModM; rw [ha, hb, hbn]; rfl
    · unfold mulModM; rw [e2, hb]
      have : a * invM p b % p * b % p = a := by
        rw [Int.mul_emod, Int.emod_emod, ← Int.mul_emod, Int.mul_assoc, Int.mul_emod, h1, Int.mul_one, Int.emod_emod]
        exact Int.emod_eq_of_lt ba.2.2.1 (by omega)
      simp [this]
    · unfold invModM; rw [hb, hbn]; rfl
    · unfold mulModM; rw [e1, hb]; simp [h1]
theorem ordM_of {p a : Int} (h : (ordModM p a).isSome = true) : ∃ n : Int, ordModM p a = some n ∧ 1 ≤ n ∧ n ≤ 251 ∧ powModM p a n = some 1 ∧ powModM p a (n + 1) = some a ∧ (p - 1).tmod n = 0 ∧ 2 ≤ p ∧ p ≤ 251 := by
  unfold ordModM at h
  split at h
  case isFalse => cases h
  case isTrue hc =>
    simp only [Bool.and_eq_true, Bool.not_eq_true', beq_eq_false_iff_ne] at hc
    obtain ⟨ha, h0⟩ := hc
    have ba := elemB_bd ha
    have hp := elemB_prime ha
    have hd : ¬ p ∣ a := not_dvd_small (by omega) (by omega)
    have han : (a == 0) = false := by simpa using h0
    obtain ⟨n, hn, hn2⟩ := ord_exists hp hd
    have e := ordN_of hn
    have hn1 := hn.1
    have e1 : powM p a (n : Int) = 1 := hn.2.1
    have e2 : powM p a ((n : Int) + 1) = a := by
      show a ^ ((n : Int) + 1).toNat % p = a
      rw [show ((n : Int) + 1).toNat = n + 1 by omega, Int.pow_succ, Int.mul_emod, hn.2.1, Int.one_mul, Int.emod_emod]
      exact Int.emod_eq_of_lt ba.2.2.1 (by omega)
    have e3 := ord_dvd (m := p.toNat - 1) ba.1 hn (fermat hp hd)
    refine ⟨n, ?_, by omega, by omega, ?_, ?_, ?_, by omega, by omega⟩
    · unfold ordModM; rw [ha, han, e]; rfl
    · unfold powModM; rw [ha, inB_mk (by omega) (by omega), e1]; rfl
    · unfold powModM; rw [ha, inB_mk (by omega) (by omega), e2]; rfl
    · rw [Int.tmod_eq_emod_of_nonneg (by omega), show p - 1 = ((p.toNat - 1 : Nat) : Int) by omega, ← Int.natCast_emod, e3]; rfl
set_option maxRecDepth 100000 in
set_option maxHeartbeats 4000000 in
theorem w_FnFields (w : World) {cd1 cd2 : Value} {l1 l2 : List Int} (h0 : Byts w cd1 l1) (h1 : Byts w cd2 l2) : Calls Try.prog 3 #[cd1, cd2] w fun e w' => e = .returned (.bool true) ∧ Below w.heap.size w w' := by
  have H0 := Lib.hid h0
  have H1 := Lib.hid h1
  obtain ⟨A1, k1, rfl⟩ := h0.form
  obtain ⟨A2, k2, rfl⟩ := h1.form
  clear h0 h1
  have HB := Lib.hid (Below.refl w.heap.size w)
  go_enter Try.func3, Try.ntmps3
  go_wp2_with fail
  refine (c_laws_big H0.out H1.out).mono ?_
  rintro e w' ⟨⟨b0, rfl⟩, rfl⟩
  cases b0
  case true => go_wp2; go_ret; exact ⟨rfl, Below.refl _ _⟩
  go_wp2_with fail
  refine (c_spec_DrawDivideMod H0.out).mono ?_
  rintro e v1 ⟨⟨p, a, b, rfl⟩, hB⟩
  clear H0
  replace H1 := Lib.hid (H1.out.below hB)
  replace HB := Lib.hid (below_step HB.out hB)
  clear hB
  have CD := Lib.hid (fun w : World => c_impl_DivideMod (p := p) (a := a) (b := b) (w := w))
  have SD := Lib.hid (fun w : World => c_spec_DivideMod (p := p) (a := a) (b := b) (w := w))
  obtain ⟨Q, hQ⟩ : ∃ L, oV (divModM p a b) = L := ⟨_, rfl⟩
  obtain ⟨O, hO⟩ : ∃ L, oB (divModM p a b) = L := ⟨_, rfl⟩
  rw [hQ, hO] at CD SD
  replace hQ := Lib.hid hQ
  replace hO := Lib.hid hO
  go_wp2_with fail
  refine (CD.out _).mono ?_
  rintro e w' ⟨rfl, rfl⟩
  go_wp2_with fail
  refine (SD.out _).mono ?_
  rintro e v2 ⟨rfl, hB⟩
  replace H1 := Lib.hid (H1.out.below hB)
  replace HB := Lib.hid (below_step HB.out hB)
  clear hB
  go_wp2_with fail
  refine (k_impl_IsPrime).mono ?_
  rintro e w' ⟨rfl, rfl⟩
  go_wp2_with fail
  refine (c_spec_IsPrime).mono ?_
  rintro e w' ⟨rfl, rfl⟩
  clear CD SD
  go_upto_if 84 with fail
  go_cut [] (fun wx => wx = v2)
  case first =>
    by_cases hm : (divModM p a b).isSome = true
    · obtain ⟨e1, e2, e3, e4⟩ := divM_of hm
      obtain rfl : O = true := hO.out.symm.trans hm
      obtain rfl : Q = a * invM p b % p := by have := hQ.out; rw [e1] at this; exact this.symm
      have CM := Lib.hid (fun w : World => c_impl_MulMod (p := p) (a := a * invM p b % p) (b := b) (w := w))
      have CI := Lib.hid (fun w : World => c_impl_InverseMod (p := p) (a := b) (w := w))
      have CN := Lib.hid (fun w : World => c_impl_MulMod (p := p) (a := invM p b) (b := b) (w := w))
      rw [e2] at CM
      rw [e3] at CI
      rw [e4] at CN
      clear hm e1 e2 e3 e4 hQ hO
      unfold oV oB at CM CI CN
      simp only [Option.getD_some, Option.isSome_some] at CM CI CN
      generalize a * invM p b % p = Q at *
      generalize invM p b = I at *
      go_wp2_with fail
      refine (CM.out _).mono ?_
      rintro e w' ⟨rfl, rfl⟩
      go_wp2_with fail
      refine (CI.out _).mono ?_
      rintro e w' ⟨rfl, rfl⟩
      go_wp2_with fail
      refine (CN.out _).mono ?_
      rintro e w' ⟨rfl, rfl⟩
      go_wp2_with fail
      go_meet; rfl
    · obtain rfl : O = false := hO.out.symm.trans (by simpa [oB] using hm)
      go_wp2_with fail
      go_meet; rfl
  case rest =>
    subst hcut
    go_wp2_with fail
    refine (c_spec_DrawOrderMod H1.out).mono ?_
    rintro e v3 ⟨⟨r, x, rfl⟩, hB⟩
    replace H1 := Lib.hid (H1.out.below hB)
    replace HB := Lib.hid (below_step HB.out hB)
    clear hB
    have CD := Lib.hid (fun w : World => c_impl_OrderMod (p := r) (a := x) (w := w))
    have SD := Lib.hid (fun w : World => c_spec_OrderMod (p := r) (a := x) (w := w))
    obtain ⟨N, hN⟩ : ∃ L, oV (ordModM r x) = L := ⟨_, rfl⟩
    obtain ⟨M, hM⟩ : ∃ L, oB (ordModM r x) = L := ⟨_, rfl⟩
    rw [hN, hM] at CD SD
    replace hN := Lib.hid hN
    replace hM := Lib.hid hM
    go_wp2_with fail
    refine (CD.out _).mono ?_
    rintro e v4 ⟨rfl, hB⟩
    replace H1 := Lib.hid (H1.out.below hB)
    replace HB := Lib.hid (below_step HB.out hB)
    clear hB
    go_wp2_with fail
    refine (SD.out _).mono ?_
    rintro e v5 ⟨rfl, hB⟩
    replace H1 := Lib.hid (H1.out.below hB)
    replace HB := Lib.hid (below_step HB.out hB)
    clear hB
    clear CD SD
    go_upto_if 149 with fail
    go_cut [] (fun wx => wx = v5)
    case first =>
      by_cases hm : (ordModM r x).isSome = true
      · obtain ⟨n, e1, hn1, hn2, e2, e3, e4, hr1, hr2⟩ := ordM_of hm
        obtain rfl : M = true := hM.out.symm.trans hm
        obtain rfl : N = n := by have := hN.out; rw [e1] at this; exact this.symm
        have CP := Lib.hid (fun w : World => c_impl_PowMod (p := r) (a := x) (n := N) (w := w))
        have CR := Lib.hid (fun w : World => c_impl_PowMod (p := r) (a := x) (n := N + 1) (w := w))
        rw [e2] at CP
        rw [e3] at CR
        clear hm e1 e2 e3 hN hM
        unfold oV oB at CP CR
        simp only [Option.getD_some, Option.isSome_some] at CP CR
        have hn0 : ¬ N = 0 := by omega
        go_wp2_with fail
        refine (CP.out _).mono ?_
        rintro e w' ⟨rfl, rfl⟩
        go_wp2_with fail
        refine (CR.out _).mono ?_
        rintro e w' ⟨rfl, rfl⟩
        go_wp2_with fail
        go_meet; rfl
      · obtain rfl : M = false := hM.out.symm.trans (by simpa [oB] using hm)
        go_wp2_with fail
        go_meet; rfl
    case rest =>
      subst hcut
      go_wp2_with fail
      refine (c_spec_DrawAddMod H1.out).mono ?_
      rintro e v6 ⟨⟨s, c, d, rfl⟩, hB⟩
      replace H1 := Lib.hid (H1.out.below hB)
      replace HB := Lib.hid (below_step HB.out hB)
      clear hB
      go_wp2_with fail
      refine (c_impl_AddMod).mono ?_
      rintro e w' ⟨rfl, rfl⟩
      go_wp2_with fail
      refine (c_spec_AddMod).mono ?_
      rintro e v7 ⟨rfl, hB⟩
      replace H1 := Lib.hid (H1.out.below hB)
      replace HB := Lib.hid (below_step HB.out hB)
      clear hB
      go_wp2_with fail
      refine (c_impl_MulMod).mono ?_
      rintro e w' ⟨rfl, rfl⟩
      go_wp2_with fail
      refine (c_spec_MulMod).mono ?_
      rintro e v8 ⟨rfl, hB⟩
      replace H1 := Lib.hid (H1.out.below hB)
      replace HB := Lib.hid (below_step HB.out hB)
      clear hB
      go_wp2_with fail
      refine (c_spec_DrawPowMod H1.out).mono ?_
      rintro e v9 ⟨⟨t, g, m, rfl⟩, hB⟩
      clear H1
      replace HB := Lib.hid (below_step HB.out hB)
      clear hB
      go_wp2_with fail
      refine (c_impl_PowMod).mono ?_
      rintro e w' ⟨rfl, rfl⟩
      go_wp2_with fail
      refine (c_spec_PowMod).mono ?_
      rintro e v10 ⟨rfl, hB⟩
      replace HB := Lib.hid (below_step HB.out hB)
      clear hB
      generalize oV (addModM s c d) = G1 at *
      generalize oB (addModM s c d) = G2 at *
      generalize oV (mulModM s c d) = G3 at *
      generalize oB (mulModM s c d) = G4 at *
      generalize oV (powModM t g m) = G5 at *
      generalize oB (powModM t g m) = G6 at *
      go_wp2
      go_ret
      exact ⟨rfl, HB.out⟩
end Go.Proofs.Ytmccfdaaneemfaa

