/- Contracts of CountPolynomials. Conditions: the lists are short. -/
import Derived.Test.YtmccfdaaneemfaaThrF
namespace Go.Proofs.Ytmccfdaaneemfaa
open Go.RowKit
set_option linter.unusedVariables false

noncomputable def cntB (p : Int) (xs ys : List Int) (t v : Int) : Bool := holdB p xs ys && inB t 1 10 && inB v 0 (p - 1)
noncomputable def countM (p : Int) (xs ys : List Int) (t v : Int) : Option Int :=
  if cntB p xs ys t v && decide (p ^ t.toNat ≤ 100000000) then some (if xs.length + 1 < t.toNat then p ^ (t.toNat - (xs.length + 1)) else if fitS p (0 :: xs) (v :: ys) t.toNat then 1 else 0) else none
theorem pow_mono {p : Int} (hp : 1 ≤ p) {a b : Nat} (h : a ≤ b) : p ^ a ≤ p ^ b := by
  obtain ⟨d, rfl⟩ := Nat.exists_eq_add_of_le h
  rw [Int.pow_add]
  have h1 : 0 < p ^ a := Int.pow_pos (by omega)
  have h2 : 0 < p ^ d := Int.pow_pos (by omega)
  have := Int.mul_le_mul_of_nonneg_left (show (1 : Int) ≤ p ^ d by omega) (Int.le_of_lt h1)
  omega
theorem pow_pos' {p : Int} (hp : 1 ≤ p) (a : Nat) : 1 ≤ p ^ a := by
  have h1 : 0 < p ^ a := Int.pow_pos (by omega)
  omega
/-- The value at 0 is one more point. -/
theorem more_pts {p : Int} {xs ys : List Int} {v : Int} (h : holdB p xs ys = true) (hv : 0 ≤ v ∧ v < p) : PrimeP p ∧ (2 ≤ p ∧ p ≤ 251) ∧ (∀ x ∈ xs, 0 ≤ x ∧ x < p) ∧ (∀ y ∈ ys, 0 ≤ y ∧ y < p) ∧ xs.length = ys.length ∧ xs.length ≤ 10 ∧
    ∀ t, fitI p (xs ++ [0]) (ys ++ [v]) t = fitS p (0 :: xs) (v :: ys) t := by
  obtain ⟨h1, h2, h3⟩ := holdB_of h
  obtain ⟨hpr, hp, hxb, hyb, hlen, hll, hnd⟩ := ptsB_of h1
  refine ⟨hpr, hp, hxb, hyb, hll, h2, fun t => ?_⟩
  have hn1 : (xs ++ [0]).Nodup := nodup_snoc.2 ⟨hnd, h3⟩
  have hn2 : ((0 : Int) :: xs).Nodup := List.nodup_cons.2 ⟨h3, hnd⟩
  have hb1 : ∀ x ∈ xs ++ [0], 0 ≤ x ∧ x < p := by
    intro x hx; rcases List.mem_append.1 hx with h | h
    · exact hxb x h
    · simp at h; omega
  have hb2 : ∀ x ∈ (0 : Int) :: xs, 0 ≤ x ∧ x < p := by
    intro x hx; rcases List.mem_cons.1 hx with rfl | h
    · omega
    · exact hxb x h
  have hy1 : ∀ y ∈ ys ++ [v], 0 ≤ y ∧ y < p := by
    intro x hx; rcases List.mem_append.1 hx with h | h
    · exact hyb x h
    · simp at h; omega
  have hy2 : ∀ y ∈ v :: ys, 0 ≤ y ∧ y < p := by
    intro x hx; rcases List.mem_cons.1 hx with rfl | h
    · omega
    · exact hyb x h
  have hl1 : (xs ++ [0]).length = (ys ++ [v]).length := by simp [hll]
  have hl2 : ((0 : Int) :: xs).length = (v :: ys).length := by simp [hll]
  rw [fitI_eq hpr (dis_of hn1 hb1) hl1 hy1]
  refine Bool.eq_iff_iff.2 ?_
  rw [fitS_iff hpr (dis_of hn1 hb1) hl1 hy1, fitS_iff hpr (dis_of hn2 hb2) hl2 hy2]
  exact fits_front hll
set_option maxRecDepth 100000 in
set_option maxHeartbeats 4000000 in
theorem c_impl_CountPolynomials {vx vy : Value} {xs ys : List Int} {p t v : Int} {w : World} (hx : Ints w vx xs) (hy : Ints w vy ys) (hlx : xs.length ≤ 2097152) (hly : ys.length ≤ 2097152) :
    Calls Try.prog 65 #[.int .i64 p, vx, vy, .int .i64 t, .int .i64 v] w fun e w' => e = .returned (.tuple #[.int .i64 (oV (countM p xs ys t v)), .bool (oB (countM p xs ys t v))]) ∧ Below w.heap.size w w' := by
  have HX := Lib.hid hx
  have HY := Lib.hid hy
  obtain ⟨A, c, rfl, hlc, hcm, hrd⟩ := hx
  obtain ⟨A', c', rfl, hlc', hcm', hrd'⟩ := hy
  unfold maxLen at hcm hcm'
  rcases hP : holdB p xs ys with _ | _
  · have HM := Lib.hid (show countM p xs ys t v = none by unfold countM cntB; rw [hP]; rfl)
    go_enter Try.func65, Try.ntmps65
    go_wp2_with fail
    refine (c_impl_areHolders HX.out HY.out hlx hly).mono ?_
    rintro e w1 ⟨rfl, hb1⟩
    go_wp2
    go_ret2; exact ⟨by rw [HM.out]; rfl, hb1⟩
  · have hpts := (holdB_of hP).1
    have hpb := (ptsB_of hpts).2.1
    have hfd := ptsB_fld hpts
    clear hpts
    rcases hT : inB t 1 10 with _ | _
    · have HM := Lib.hid (show countM p xs ys t v = none by unfold countM cntB; rw [hP, hT]; rfl)
      go_enter Try.func65, Try.ntmps65
      go_wp2_with fail
      refine (c_impl_areHolders HX.out HY.out hlx hly).mono ?_
      rintro e w1 ⟨rfl, hb1⟩
      go_wp2_with (go_at_call 70; refine (c_impl_within).mono ?_; rintro e w' ⟨rfl, rfl⟩)
      go_ret2; exact ⟨by rw [HM.out]; rfl, hb1⟩
    · rcases hV : inB v 0 (p - 1) with _ | _
      · have HM := Lib.hid (show countM p xs ys t v = none by unfold countM cntB; rw [hP, hT, hV]; rfl)
        have hE : elemB p v = false := by unfold elemB; rw [hfd, hV]; rfl
        go_enter Try.func65, Try.ntmps65
        go_wp2_with fail
        refine (c_impl_areHolders HX.out HY.out hlx hly).mono ?_
        rintro e w1 ⟨rfl, hb1⟩
        go_wp2_with (first | (go_at_call 70; refine (c_impl_within).mono ?_; rintro e w' ⟨rfl, rfl⟩) | (go_at_call 66; refine (c_impl_isElement).mono ?_; rintro e w' ⟨rfl, rfl⟩))
        go_ret2; exact ⟨by rw [HM.out]; rfl, hb1⟩
      · have htb := inB_bd hT
        have hvb := inB_bd hV
        obtain ⟨hpr, hp, hxb, hyb, hll, hl10, hfit⟩ := more_pts hP (v := v) (by omega)
        have HCB := Lib.hid (show cntB p xs ys t v = true by unfold cntB; rw [hP, hT, hV]; rfl)
        have HXB := Lib.hid hxb
        have HYB := Lib.hid hyb
        have HLL := Lib.hid hll
        have HFI := Lib.hid hfit
        have hly10 : ys.length ≤ 10 := by omega
        obtain ⟨n, rfl⟩ := nat_of (show 0 ≤ t by omega)
        have HCM := Lib.hid (show countM p xs ys (n : Int) v = if decide (p ^ n ≤ 100000000) then some (if xs.length + 1 < n then p ^ (n - (xs.length + 1)) else if fitS p (0 :: xs) (v :: ys) n then 1 else 0) else none by
          unfold countM; rw [HCB.out, Int.toNat_natCast]; rfl)
        have hn10 : n ≤ 10 := by omega
        have hn1 : 1 ≤ n := by omega
        have hn0 : (0 : Int) ≤ (n : Int) := by omega
        clear hpr hxb hyb hll hfit
        have hE : elemB p v = true := by unfold elemB; rw [hfd, hV]; rfl
        go_enter Try.func65, Try.ntmps65
        go_wp2_with fail
        refine (c_impl_areHolders HX.out HY.out hlx hly).mono ?_
        rintro e w1 ⟨rfl, hb1⟩
        go_wp2_with (first | (go_at_call 70; refine (c_impl_within).mono ?_; rintro e w' ⟨rfl, rfl⟩) | (go_at_call 66; refine (c_impl_isElement).mono ?_; rintro e w' ⟨rfl, rfl⟩))
        have HB1 := Lib.hid hb1
        clear hb1
        go_loop [12, 31] (fun al i => ∃ k : Nat, k ≤ n ∧ i = .int .i64 k ∧ al = .int .i64 (p ^ k) ∧ p ^ k ≤ 100000000) (fun _ i => n - (intOf i).toNat)
        case atStart => exact ⟨0, Nat.zero_le _, rfl, by rw [Int.pow_zero], by rw [Int.pow_zero]; omega⟩
        case round =>
          obtain ⟨k, hk, rfl, rfl, hpk⟩ := hrel
          have hk0 : (0 : Int) ≤ (k : Int) := Int.natCast_nonneg _
          have hpp := pow_pos' (p := p) (by omega) k
          by_cases hlt : k < n
          · have HPS := Lib.hid (show p ^ (k + 1) = p ^ k * p from Int.pow_succ p k)
            have HMO := Lib.hid (pow_mono (p := p) (by omega) (show k + 1 ≤ n by omega))
            have HPK := Lib.hid (show (p ^ k) = p ^ k from rfl)
            generalize hE : p ^ k = E at *
            have hEp := mul_bd (show 0 ≤ E by omega) hpk (show 0 ≤ p by omega) hp.2
            by_cases hbig : 100000000 < E * p
            · have HM := Lib.hid (show countM p xs ys (n : Int) v = none by
                rw [HCM.out, if_neg]; rw [decide_eq_true_eq]; have h1 := HPS.out; have h2 := HMO.out; omega)
              go_wp2
              go_ret2; exact ⟨by rw [HM.out]; rfl, HB1.out⟩
            · go_wp2
              go_round
              case rel => exact ⟨k + 1, by omega, by go_num, by rw [HPS.out], by rw [HPS.out]; omega⟩
              case measure => simp [intOf]; omega
          · have HKN := Lib.hid (show k = n by omega)
            have HPN := Lib.hid (show p ^ n ≤ 100000000 by rw [← HKN.out]; exact hpk)
            have HCN := Lib.hid (show countM p xs ys (n : Int) v = some (if xs.length + 1 < n then p ^ (n - (xs.length + 1)) else if fitS p (0 :: xs) (v :: ys) n then 1 else 0) by rw [HCM.out, if_pos (decide_eq_true HPN.out)])
            have HZ := Lib.hid (ints_lit w1 [0] #[.int .i64 0] rfl (by simp))
            go_wp2_with fail
            refine (c_impl_with2 (HX.out.below ((HB1.out).alloc HB1.out.size _)) HZ.out (by omega) (by simp)).mono ?_
            rintro e w2 ⟨u1, rfl, hu1, hb2⟩
            have HB2 := Lib.hid (below_step ((HB1.out).alloc HB1.out.size (.cells #[.int .i64 0] 3)) hb2)
            have HU1 := Lib.hid hu1.ints
            clear hu1 hb2
            have HZ2 := Lib.hid (ints_lit w2 [v] #[.int .i64 v] rfl (by simp))
            go_wp2_with fail
            refine (c_impl_with2 (HY.out.below ((HB2.out).alloc HB2.out.size _)) HZ2.out (by omega) (by simp)).mono ?_
            rintro e w3 ⟨u2, rfl, hu2, hb3⟩
            have HB3 := Lib.hid (below_step ((HB2.out).alloc HB2.out.size (.cells #[.int .i64 v] 3)) hb3)
            have HU1' := Lib.hid (HU1.out.below (lit_trans hb3))
            have HU2 := Lib.hid hu2.ints
            clear hu2 hb3
            have HLA := Lib.hid (show (xs ++ [0]).length ≤ 1000 by simp; omega)
            have HLB := Lib.hid (show (xs ++ [0]).length = (ys ++ [v]).length by simp [HLL.out])
            have HBA := Lib.hid (show ∀ x ∈ xs ++ [0], 0 ≤ x ∧ x < p by
              intro x hx; rcases List.mem_append.1 hx with h | h
              · exact HXB.out x h
              · simp at h; omega)
            have HBB := Lib.hid (show ∀ x ∈ ys ++ [v], 0 ≤ x ∧ x < p by
              intro x hx; rcases List.mem_append.1 hx with h | h
              · exact HYB.out x h
              · simp at h; omega)
            go_wp2_with fail
            refine (c_impl_fit (t := n) HU1'.out HU2.out HLA.out HLB.out (by omega) hp HBA.out HBB.out).mono ?_
            rintro e w4 ⟨rfl, hb4⟩
            have HB4 := Lib.hid (below_step HB3.out hb4)
            clear hb4
            by_cases hfew : xs.length + 1 < n
            · have HFT := Lib.hid (show fitI p (xs ++ [0]) (ys ++ [v]) n = true by unfold fitI; rw [decide_eq_true (by simp; omega)]; rfl)
              have HM := Lib.hid (show countM p xs ys (n : Int) v = some (p ^ (n - (xs.length + 1))) by rw [HCN.out, if_pos hfew])
              have HPM := Lib.hid (fun (j : Nat) (hj : j ≤ n) => Int.le_trans (pow_mono (p := p) (by omega) hj) HPN.out)
              rw [HFT.out]
              go_wp2
              go_loop [13, 55] (fun al i => ∃ j : Nat, j ≤ n - (xs.length + 1) ∧ i = .int .i64 j ∧ al = .int .i64 (p ^ j)) (fun _ i => n - (intOf i).toNat)
              case atStart => exact ⟨0, Nat.zero_le _, rfl, by rw [Int.pow_zero]⟩
              case round =>
                obtain ⟨j, hj, rfl, rfl⟩ := hrel
                have hj0 : (0 : Int) ≤ (j : Int) := Int.natCast_nonneg _
                by_cases hjl : j < n - (xs.length + 1)
                · have HPS := Lib.hid (show p ^ (j + 1) = p ^ j * p from Int.pow_succ p j)
                  have hpp := pow_pos' (p := p) (by omega) j
                  have hpk := HPM.out j (by omega)
                  generalize hE : p ^ j = E at *
                  have hEp := mul_bd (show 0 ≤ E by omega) hpk (show 0 ≤ p by omega) hp.2
                  go_wp2
                  go_round
                  case rel => exact ⟨j + 1, by omega, by go_num, by rw [HPS.out]⟩
                  case measure => simp [intOf]; omega
                · have HJ := Lib.hid (show j = n - (xs.length + 1) by omega)
                  go_wp2
                  go_ret2; exact ⟨by rw [HM.out, ← HJ.out]; rfl, HB4.out⟩
            · rcases hF : fitI p (xs ++ [0]) (ys ++ [v]) n with _ | _
              · have HM := Lib.hid (show countM p xs ys (n : Int) v = some 0 by rw [HCN.out, if_neg hfew, ← HFI.out n, hF]; rfl)
                go_wp2
                go_ret2; exact ⟨by rw [HM.out]; rfl, HB4.out⟩
              · have HM := Lib.hid (show countM p xs ys (n : Int) v = some 1 by rw [HCN.out, if_neg hfew, ← HFI.out n, hF]; rfl)
                go_wp2
                go_loop [13, 55] (fun al i => i = .int .i64 0 ∧ al = .int .i64 1) (fun _ i => 0)
                case atStart => exact ⟨rfl, rfl⟩
                case round =>
                  obtain ⟨rfl, rfl⟩ := hrel
                  go_wp2
                  go_ret2; exact ⟨by rw [HM.out]; rfl, HB4.out⟩
end Go.Proofs.Ytmccfdaaneemfaa
