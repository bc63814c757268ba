/- Contracts of FindWrong and JoinDespite, the exported ones. Conditions: the lists are short. -/
import Derived.Test.YtpeoiemcfpghkaaThrE
namespace Go.Proofs.Ytpeoiemcfpghkaa
open Go.RowKit
set_option linter.unusedVariables false

noncomputable def wrongM (p : Int) (xs ys : List Int) (t : Int) : Option Int :=
  if askB p xs ys t && !(fitS p xs ys t.toNat) && decide (t + 2 ≤ (xs.length : Int)) && decide (0 ≤ lastM (gB p xs ys t.toNat) xs.length) then some (lastM (gB p xs ys t.toNat) xs.length) else none
noncomputable def despM (p : Int) (xs ys : List Int) (t : Int) : Option Int :=
  if askB p xs ys t then (if fitS p xs ys t.toNat then some (atM p xs ys 0) else match wrongM p xs ys t with
    | some k => some (atM p (xs.eraseIdx k.toNat) (ys.eraseIdx k.toNat) 0)
    | none => none) else none
theorem areSh_ok {p : Int} {xs ys : List Int} {n : Nat} (hA : askB p xs ys (n : Int) = true) : areShM p xs ys (n : Int) = some (fitS p xs ys n) := by unfold areShM; rw [hA]; rfl
theorem areSh_no {p : Int} {xs ys : List Int} {t : Int} (hA : askB p xs ys t = false) : areShM p xs ys t = none := by unfold areShM; rw [hA]; rfl
theorem wrong_no1 {p : Int} {xs ys : List Int} {t : Int} (hA : askB p xs ys t = false) : wrongM p xs ys t = none := by unfold wrongM; rw [hA]; rfl
theorem wrong_no2 {p : Int} {xs ys : List Int} {n : Nat} (hA : fitS p xs ys n = true) : wrongM p xs ys (n : Int) = none := by unfold wrongM; rw [Int.toNat_natCast, hA]; simp
theorem wrong_no3 {p : Int} {xs ys : List Int} {t : Int} (h : ¬ t + 2 ≤ (xs.length : Int)) : wrongM p xs ys t = none := by unfold wrongM; rw [decide_eq_false h]; simp
theorem wrong_no4 {p : Int} {xs ys : List Int} {n : Nat} (h : ¬ 0 ≤ lastM (gB p xs ys n) xs.length) : wrongM p xs ys (n : Int) = none := by unfold wrongM; rw [Int.toNat_natCast, decide_eq_false h]; simp
theorem wrong_yes {p : Int} {xs ys : List Int} {n : Nat} (hA : askB p xs ys (n : Int) = true) (hf : fitS p xs ys n = false) (h2 : (n : Int) + 2 ≤ (xs.length : Int)) (h : 0 ≤ lastM (gB p xs ys n) xs.length) : wrongM p xs ys (n : Int) = some (lastM (gB p xs ys n) xs.length) := by
  unfold wrongM; rw [Int.toNat_natCast, hA, hf, decide_eq_true h2, decide_eq_true h]; rfl
/-- Where a wrong share was found it is one of them. -/
theorem wrong_at {p : Int} {xs ys : List Int} {t k : Int} (h : wrongM p xs ys t = some k) : askB p xs ys t = true ∧ t + 2 ≤ (xs.length : Int) ∧ ∃ j : Nat, k = (j : Int) ∧ j < xs.length := by
  unfold wrongM at h
  split at h
  · rename_i hc
    simp only [Bool.and_eq_true, decide_eq_true_eq] at hc
    injection h with h
    refine ⟨hc.1.1.1, hc.1.2, ?_⟩
    rcases lastM_cases (gB p xs ys t.toNat) xs.length with h1 | ⟨j, hj, h1, _⟩
    · have := hc.2; omega
    · exact ⟨j, by omega, hj⟩
  · cases h
set_option maxRecDepth 100000 in
set_option maxHeartbeats 2000000 in
theorem c_impl_FindWrong {vx vy : Value} {xs ys : List Int} {p t : Int} {w : World} (hx : Ints w vx xs) (hy : Ints w vy ys) (hlx : xs.length ≤ 2097152) (hly : ys.length ≤ 2097152) :
    Calls Try.prog 34 #[.int .i64 p, vx, vy, .int .i64 t] w fun e w' => e = .returned (.tuple #[.int .i64 (oV (wrongM p xs ys t)), .bool (oB (wrongM p xs ys t))]) ∧ Below w.heap.size w w' := by
  have HX := Lib.hid hx
  have HY := Lib.hid hy
  obtain ⟨A, c, rfl, hlc, hcm, hrd⟩ := hx
  obtain ⟨A', c', rfl, hlc', hcm', hrd'⟩ := hy
  rcases hA : askB p xs ys t with _ | _
  · have HM := Lib.hid (wrong_no1 hA)
    have HS := Lib.hid (areSh_no hA)
    go_enter Try.func34, Try.ntmps34
    go_wp2_with fail
    refine (c_impl_AreShares HX.out HY.out hlx hly).mono ?_
    rintro e w1 ⟨rfl, hb1⟩
    rw [HS.out]
    simp only [bV, Option.getD_none, Option.isSome_none]
    go_wp2
    go_ret2; exact ⟨by rw [HM.out]; rfl, hb1⟩
  · obtain ⟨hP, n, rfl, hn1, hn2⟩ := askB_of hA
    have hpts := (holdB_of hP).1
    have hlen10 := (holdB_of hP).2.1
    have HS := Lib.hid (areSh_ok hA)
    have HPT := Lib.hid hpts
    have hn0 : (0 : Int) ≤ (n : Int) := Int.natCast_nonneg _
    rcases hf : fitS p xs ys n with _ | _
    · by_cases h2 : (xs.length : Int) < (n : Int) + 2
      · have HM := Lib.hid (wrong_no3 (p := p) (xs := xs) (ys := ys) (t := (n : Int)) (by omega))
        go_enter Try.func34, Try.ntmps34
        go_wp2_with fail
        refine (c_impl_AreShares HX.out HY.out hlx hly).mono ?_
        rintro e w1 ⟨rfl, hb1⟩
        rw [HS.out, hf]
        simp only [bV, Option.getD_some, Option.isSome_some]
        go_wp2
        go_ret2; exact ⟨by rw [HM.out]; rfl, hb1⟩
      · have HW := Lib.hid (fun W (hx : Below w.heap.size w W) => c_impl_findWrong (p := p) (t := n) (HX.out.below hx) (HY.out.below hx) hpts hf (by omega))
        have hcs := lastM_cases (gB p xs ys n) xs.length
        by_cases h0 : lastM (gB p xs ys n) xs.length < 0
        · have HM := Lib.hid (wrong_no4 (p := p) (xs := xs) (ys := ys) (n := n) (by omega))
          go_enter Try.func34, Try.ntmps34
          go_wp2_with fail
          refine (c_impl_AreShares HX.out HY.out hlx hly).mono ?_
          rintro e w1 ⟨rfl, hb1⟩
          rw [HS.out, hf]
          simp only [bV, Option.getD_some, Option.isSome_some]
          go_wp2_with fail
          refine (HW.out _ hb1).mono ?_
          rintro e w2 ⟨rfl, hb2⟩
          go_wp2
          go_ret2; exact ⟨by rw [HM.out]; rfl, below_step hb1 hb2⟩
        · have HM := Lib.hid (wrong_yes hA hf (by omega) (by omega))
          go_enter Try.func34, Try.ntmps34
          go_wp2_with fail
          refine (c_impl_AreShares HX.out HY.out hlx hly).mono ?_
          rintro e w1 ⟨rfl, hb1⟩
          rw [HS.out, hf]
          simp only [bV, Option.getD_some, Option.isSome_some]
          go_wp2_with fail
          refine (HW.out _ hb1).mono ?_
          rintro e w2 ⟨rfl, hb2⟩
          go_wp2
          go_ret2; exact ⟨by rw [HM.out]; rfl, below_step hb1 hb2⟩
    · have HM := Lib.hid (wrong_no2 (p := p) (xs := xs) (ys := ys) (n := n) hf)
      go_enter Try.func34, Try.ntmps34
      go_wp2_with fail
      refine (c_impl_AreShares HX.out HY.out hlx hly).mono ?_
      rintro e w1 ⟨rfl, hb1⟩
      rw [HS.out, hf]
      simp only [bV, Option.getD_some, Option.isSome_some]
      go_wp2
      go_ret2; exact ⟨by rw [HM.out]; rfl, hb1⟩
set_option maxRecDepth 100000 in
set_option maxHeartbeats 2000000 in
theorem c_spec_FindWrong {vx vy : Value} {xs ys : List Int} {p t : Int} {w : World} (hx : Ints w vx xs) (hy : Ints w vy ys) (hlx : xs.length ≤ 2097152) (hly : ys.length ≤ 2097152) :
    Calls Try.prog 33 #[.int .i64 p, vx, vy, .int .i64 t] w fun e w' => e = .returned (.tuple #[.int .i64 (oV (wrongM p xs ys t)), .bool (oB (wrongM p xs ys t))]) ∧ Below w.heap.size w w' := by
  have HX := Lib.hid hx
  have HY := Lib.hid hy
  obtain ⟨A, c, rfl, hlc, hcm, hrd⟩ := hx
  obtain ⟨A', c', rfl, hlc', hcm', hrd'⟩ := hy
  rcases hA : askB p xs ys t with _ | _
  · have HM := Lib.hid (wrong_no1 hA)
    go_enter Try.func33, Try.ntmps33
    go_wp2_with fail
    refine (c_spec_thAsked HX.out HY.out hlx hly).mono ?_
    rintro e w1 ⟨rfl, hb1⟩
    go_wp2
    go_ret2; exact ⟨by rw [HM.out]; rfl, hb1⟩
  · obtain ⟨hP, n, rfl, hn1, hn2⟩ := askB_of hA
    have hpts := (holdB_of hP).1
    have hlen10 := (holdB_of hP).2.1
    obtain ⟨hpr, hpb, hxb, hyb, hlen, hll, hnd⟩ := ptsB_of hpts
    have HXB := Lib.hid hxb
    have HYB := Lib.hid hyb
    have HLL := Lib.hid hll
    clear hpr hxb hyb hll hnd
    have hn0 : (0 : Int) ≤ (n : Int) := Int.natCast_nonneg _
    have HFT := Lib.hid (fun W (h : Below w.heap.size w W) => c_spec_thFit (t := n) (HX.out.below h) (HY.out.below h) (by omega) HLL.out hn2 hpb HXB.out HYB.out)
    by_cases h2 : (xs.length : Int) < (n : Int) + 2
    · have HM := Lib.hid (wrong_no3 (p := p) (xs := xs) (ys := ys) (t := (n : Int)) (by omega))
      go_enter Try.func33, Try.ntmps33
      go_wp2_with fail
      refine (c_spec_thAsked HX.out HY.out hlx hly).mono ?_
      rintro e w1 ⟨rfl, hb1⟩
      go_wp2
      go_ret2; exact ⟨by rw [HM.out]; rfl, hb1⟩
    · rcases hf : fitS p xs ys n with _ | _
      · have HW := Lib.hid (fun W (h : Below w.heap.size w W) => c_spec_thWrong (p := p) (t := n) (HX.out.below h) (HY.out.below h) hpts (by omega))
        by_cases h0 : lastM (gB p xs ys n) xs.length < 0
        · have HM := Lib.hid (wrong_no4 (p := p) (xs := xs) (ys := ys) (n := n) (by omega))
          go_enter Try.func33, Try.ntmps33
          go_wp2_with fail
          refine (c_spec_thAsked HX.out HY.out hlx hly).mono ?_
          rintro e w1 ⟨rfl, hb1⟩
          go_wp2_with fail
          refine (HFT.out _ hb1).mono ?_
          rintro e w2 ⟨rfl, hb2⟩
          rw [hf]
          have HB2 := Lib.hid (below_step hb1 hb2)
          go_wp2_with fail
          refine (HW.out _ HB2.out).mono ?_
          rintro e w3 ⟨rfl, hb3⟩
          go_wp2
          go_ret2; exact ⟨by rw [HM.out]; rfl, below_step HB2.out hb3⟩
        · have HM := Lib.hid (wrong_yes hA hf (by omega) (by omega))
          go_enter Try.func33, Try.ntmps33
          go_wp2_with fail
          refine (c_spec_thAsked HX.out HY.out hlx hly).mono ?_
          rintro e w1 ⟨rfl, hb1⟩
          go_wp2_with fail
          refine (HFT.out _ hb1).mono ?_
          rintro e w2 ⟨rfl, hb2⟩
          rw [hf]
          have HB2 := Lib.hid (below_step hb1 hb2)
          go_wp2_with fail
          refine (HW.out _ HB2.out).mono ?_
          rintro e w3 ⟨rfl, hb3⟩
          have HB3 := Lib.hid (below_step HB2.out hb3)
          go_wp2_with fail
          refine (HW.out _ HB3.out).mono ?_
          rintro e w4 ⟨rfl, hb4⟩
          go_wp2
          go_ret2; exact ⟨by rw [HM.out]; rfl, below_step HB3.out hb4⟩
      · have HM := Lib.hid (wrong_no2 (p := p) (xs := xs) (ys := ys) (n := n) hf)
        go_enter Try.func33, Try.ntmps33
        go_wp2_with fail
        refine (c_spec_thAsked HX.out HY.out hlx hly).mono ?_
        rintro e w1 ⟨rfl, hb1⟩
        go_wp2_with fail
        refine (HFT.out _ hb1).mono ?_
        rintro e w2 ⟨rfl, hb2⟩
        rw [hf]
        go_wp2
        go_ret2; exact ⟨by rw [HM.out]; rfl, below_step hb1 hb2⟩
set_option maxRecDepth 100000 in
set_option maxHeartbeats 2000000 in
theorem c_impl_JoinDespite {vx vy : Value} {xs ys : List Int} {p t : Int} {w : World} (hx : Ints w vx xs) (hy : Ints w vy ys) (hlx : xs.length ≤ 2097152) (hly : ys.length ≤ 2097152) :
    Calls Try.prog 36 #[.int .i64 p, vx, vy, .int .i64 t] w fun e w' => e = .returned (.tuple #[.int .i64 (oV (despM p xs ys t)), .bool (oB (despM p xs ys t))]) ∧ Below w.heap.size w w' := by
  have HX := Lib.hid hx
  have HY := Lib.hid hy
  obtain ⟨A, c, rfl, hlc, hcm, hrd⟩ := hx
  obtain ⟨A', c', rfl, hlc', hcm', hrd'⟩ := hy
  rcases hA : askB p xs ys t with _ | _
  · have HM := Lib.hid (show despM p xs ys t = none by unfold despM; rw [hA]; rfl)
    have HS := Lib.hid (areSh_no hA)
    go_enter Try.func36, Try.ntmps36
    go_wp2_with fail
    refine (c_impl_AreShares HX.out HY.out hlx hly).mono ?_
    rintro e w1 ⟨rfl, hb1⟩
    rw [HS.out]
    simp only [bV, Option.getD_none, Option.isSome_none]
    go_wp2
    go_ret2; exact ⟨by rw [HM.out]; rfl, hb1⟩
  · obtain ⟨hP, n, rfl, hn1, hn2⟩ := askB_of hA
    have HS := Lib.hid (areSh_ok hA)
    have hn0 : (0 : Int) ≤ (n : Int) := Int.natCast_nonneg _
    rcases hf : fitS p xs ys n with _ | _
    · have HDM := Lib.hid (show despM p xs ys (n : Int) = match wrongM p xs ys (n : Int) with | some k => some (atM p (xs.eraseIdx k.toNat) (ys.eraseIdx k.toNat) 0) | none => none by unfold despM; rw [hA, Int.toNat_natCast, hf]; rfl)
      rcases hw : wrongM p xs ys (n : Int) with _ | k
      · have HM := Lib.hid (show despM p xs ys (n : Int) = none by rw [HDM.out, hw])
        go_enter Try.func36, Try.ntmps36
        go_wp2_with fail
        refine (c_impl_AreShares HX.out HY.out hlx hly).mono ?_
        rintro e w1 ⟨rfl, hb1⟩
        rw [HS.out, hf]
        simp only [bV, Option.getD_some, Option.isSome_some]
        go_wp2_with fail
        refine (c_impl_FindWrong (HX.out.below hb1) (HY.out.below hb1) hlx hly).mono ?_
        rintro e w2 ⟨rfl, hb2⟩
        rw [hw]
        simp only [oV, oB, Option.getD_none, Option.isSome_none]
        go_wp2
        go_ret2; exact ⟨by rw [HM.out]; rfl, below_step hb1 hb2⟩
      · obtain ⟨-, hk2, j, rfl, hj⟩ := wrong_at hw
        have hPe := holdB_erase hP j
        have HJ := Lib.hid (show joinTM p (xs.eraseIdx j) (ys.eraseIdx j) = some (atM p (xs.eraseIdx j) (ys.eraseIdx j) 0) by
          unfold joinTM; rw [hPe, show (((xs.eraseIdx j).length : Int) == 0) = false by rw [beq_eq_false_iff_ne, List.length_eraseIdx_of_lt hj]; omega]; rfl)
        have HM := Lib.hid (show despM p xs ys (n : Int) = some (atM p (xs.eraseIdx j) (ys.eraseIdx j) 0) by rw [HDM.out, hw]; simp only [Int.toNat_natCast])
        have hpts := (holdB_of hP).1
        obtain ⟨hpr, hpb, hxb, hyb, hlen, hll, hnd⟩ := ptsB_of hpts
        have hjy : j < ys.length := by omega
        have hly2 : ys.length ≤ 1000 := by omega
        have HLE := Lib.hid (show (xs.eraseIdx j).length ≤ 2097152 by rw [List.length_eraseIdx]; split <;> omega)
        have HLE2 := Lib.hid (show (ys.eraseIdx j).length ≤ 2097152 by rw [List.length_eraseIdx]; split <;> omega)
        clear hpr hxb hyb hll hnd hPe hpts
        go_enter Try.func36, Try.ntmps36
        go_wp2_with fail
        refine (c_impl_AreShares HX.out HY.out hlx hly).mono ?_
        rintro e w1 ⟨rfl, hb1⟩
        rw [HS.out, hf]
        simp only [bV, Option.getD_some, Option.isSome_some]
        go_wp2_with fail
        refine (c_impl_FindWrong (HX.out.below hb1) (HY.out.below hb1) hlx hly).mono ?_
        rintro e w2 ⟨rfl, hb2⟩
        rw [hw]
        simp only [oV, oB, Option.getD_some, Option.isSome_some]
        have HB2 := Lib.hid (below_step hb1 hb2)
        clear hb1 hb2
        go_wp2_with fail
        refine (c_impl_left (HX.out.below HB2.out) (by omega) hj).mono ?_
        rintro e w3 ⟨u1, rfl, hu1, hb3⟩
        have HU1 := Lib.hid hu1.ints
        have HB3 := Lib.hid (below_step HB2.out hb3)
        clear hu1 hb3
        go_wp2_with fail
        refine (c_impl_left (HY.out.below HB3.out) hly2 hjy).mono ?_
        rintro e w4 ⟨u2, rfl, hu2, hb4⟩
        have HU2 := Lib.hid hu2.ints
        have HU1' := Lib.hid (HU1.out.below hb4)
        have HB4 := Lib.hid (below_step HB3.out hb4)
        clear hu2 hb4
        go_wp2_with fail
        refine (c_impl_JoinThreshold HU1'.out HU2.out HLE.out HLE2.out).mono ?_
        rintro e w5 ⟨rfl, hb5⟩
        rw [HJ.out]
        simp only [oV, oB, Option.getD_some, Option.isSome_some]
        go_wp2
        go_ret2; exact ⟨by rw [HM.out]; rfl, below_step HB4.out hb5⟩
    · have HJ := Lib.hid (show joinTM p xs ys = some (atM p xs ys 0) by
        unfold joinTM; rw [hP, show ((xs.length : Int) == 0) = false by rw [beq_eq_false_iff_ne]; omega]; rfl)
      have HM := Lib.hid (show despM p xs ys (n : Int) = some (atM p xs ys 0) by unfold despM; rw [hA, Int.toNat_natCast, hf]; rfl)
      go_enter Try.func36, Try.ntmps36
      go_wp2_with fail
      refine (c_impl_AreShares HX.out HY.out hlx hly).mono ?_
      rintro e w1 ⟨rfl, hb1⟩
      rw [HS.out, hf]
      simp only [bV, Option.getD_some, Option.isSome_some]
      go_wp2_with fail
      refine (c_impl_JoinThreshold (HX.out.below hb1) (HY.out.below hb1) hlx hly).mono ?_
      rintro e w2 ⟨rfl, hb2⟩
      rw [HJ.out]
      simp only [oV, oB, Option.getD_some, Option.isSome_some]
      go_wp2
      go_ret2; exact ⟨by rw [HM.out]; rfl, below_step hb1 hb2⟩
set_option maxRecDepth 100000 in
set_option maxHeartbeats 2000000 in
theorem c_spec_JoinDespite {vx vy : Value} {xs ys : List Int} {p t : Int} {w : World} (hx : Ints w vx xs) (hy : Ints w vy ys) (hlx : xs.length ≤ 2097152) (hly : ys.length ≤ 2097152) :
    Calls Try.prog 35 #[.int .i64 p, vx, vy, .int .i64 t] w fun e w' => e = .returned (.tuple #[.int .i64 (oV (despM p xs ys t)), .bool (oB (despM p xs ys t))]) ∧ Below w.heap.size w w' := by
  have HX := Lib.hid hx
  have HY := Lib.hid hy
  obtain ⟨A, c, rfl, hlc, hcm, hrd⟩ := hx
  obtain ⟨A', c', rfl, hlc', hcm', hrd'⟩ := hy
  rcases hA : askB p xs ys t with _ | _
  · have HM := Lib.hid (show despM p xs ys t = none by unfold despM; rw [hA]; rfl)
    go_enter Try.func35, Try.ntmps35
    go_wp2_with fail
    refine (c_spec_thAsked HX.out HY.out hlx hly).mono ?_
    rintro e w1 ⟨rfl, hb1⟩
    go_wp2
    go_ret2; exact ⟨by rw [HM.out]; rfl, hb1⟩
  · obtain ⟨hP, n, rfl, hn1, hn2⟩ := askB_of hA
    have hpts := (holdB_of hP).1
    obtain ⟨hpr, hpb, hxb, hyb, hlen, hll, hnd⟩ := ptsB_of hpts
    have HXB := Lib.hid hxb
    have HYB := Lib.hid hyb
    have HLL := Lib.hid hll
    have hn0 : (0 : Int) ≤ (n : Int) := Int.natCast_nonneg _
    have hly2 : ys.length ≤ 12 := by omega
    have HFT := Lib.hid (fun W (h : Below w.heap.size w W) => c_spec_thFit (t := n) (HX.out.below h) (HY.out.below h) (by omega) HLL.out hn2 hpb HXB.out HYB.out)
    have HFA := Lib.hid (fun (hf : fitS p xs ys n = true) => (fits_all hpr (dis_of hnd hxb) hll hn2 ((fitS_iff hpr (dis_of hnd hxb) hll hyb n).1 hf) 0).eqOf (atM_bd (by omega) _ _ _) (atM_bd (by omega) _ _ _))
    clear hpr hxb hyb hll hnd
    rcases hf : fitS p xs ys n with _ | _
    · have HDM := Lib.hid (show despM p xs ys (n : Int) = match wrongM p xs ys (n : Int) with | some k => some (atM p (xs.eraseIdx k.toNat) (ys.eraseIdx k.toNat) 0) | none => none by unfold despM; rw [hA, Int.toNat_natCast, hf]; rfl)
      rcases hw : wrongM p xs ys (n : Int) with _ | k
      · have HM := Lib.hid (show despM p xs ys (n : Int) = none by rw [HDM.out, hw])
        go_enter Try.func35, Try.ntmps35
        go_wp2_with fail
        refine (c_spec_thAsked HX.out HY.out hlx hly).mono ?_
        rintro e w1 ⟨rfl, hb1⟩
        go_wp2_with fail
        refine (HFT.out _ hb1).mono ?_
        rintro e w2 ⟨rfl, hb2⟩
        rw [hf]
        have HB2 := Lib.hid (below_step hb1 hb2)
        clear hb1 hb2
        go_wp2_with fail
        refine (c_spec_FindWrong (HX.out.below HB2.out) (HY.out.below HB2.out) hlx hly).mono ?_
        rintro e w3 ⟨rfl, hb3⟩
        rw [hw]
        simp only [oV, oB, Option.getD_none, Option.isSome_none]
        go_wp2
        go_ret2; exact ⟨by rw [HM.out]; rfl, below_step HB2.out hb3⟩
      · obtain ⟨-, hk2, j, rfl, hj⟩ := wrong_at hw
        have hPe := ptsB_erase hpts j
        obtain ⟨hpr, hpb2, hxb, hyb, hlen2, hll2, hnd⟩ := ptsB_of hPe
        have HXB2 := Lib.hid hxb
        have HYB2 := Lib.hid hyb
        have HLL2 := Lib.hid hll2
        have HLE := Lib.hid (show (xs.eraseIdx j).length ≤ 2097152 by omega)
        have HM := Lib.hid (show despM p xs ys (n : Int) = some (atM p (xs.eraseIdx j) (ys.eraseIdx j) 0) by rw [HDM.out, hw]; simp only [Int.toNat_natCast])
        have hjy : j < ys.length := by have := HLL.out; omega
        clear hpr hpb2 hxb hyb hlen2 hll2 hnd hPe
        go_enter Try.func35, Try.ntmps35
        go_wp2_with fail
        refine (c_spec_thAsked HX.out HY.out hlx hly).mono ?_
        rintro e w1 ⟨rfl, hb1⟩
        go_wp2_with fail
        refine (HFT.out _ hb1).mono ?_
        rintro e w2 ⟨rfl, hb2⟩
        rw [hf]
        have HB2 := Lib.hid (below_step hb1 hb2)
        clear hb1 hb2
        go_wp2_with fail
        refine (c_spec_FindWrong (HX.out.below HB2.out) (HY.out.below HB2.out) hlx hly).mono ?_
        rintro e w3 ⟨rfl, hb3⟩
        rw [hw]
        simp only [oV, oB, Option.getD_some, Option.isSome_some]
        have HB3 := Lib.hid (below_step HB2.out hb3)
        clear hb3
        go_wp2_with fail
        refine (c_spec_thWithout (HX.out.below HB3.out) (by omega) hj).mono ?_
        rintro e w4 ⟨u1, rfl, hu1, hb4⟩
        have HU1 := Lib.hid hu1.ints
        have HB4 := Lib.hid (below_step HB3.out hb4)
        clear hu1 hb4
        go_wp2_with fail
        refine (c_spec_thWithout (HY.out.below HB4.out) (by omega) hjy).mono ?_
        rintro e w5 ⟨u2, rfl, hu2, hb5⟩
        have HU2 := Lib.hid hu2.ints
        have HU1' := Lib.hid (HU1.out.below hb5)
        have HB5 := Lib.hid (below_step HB4.out hb5)
        clear hu2 hb5
        go_wp2_with fail
        refine (c_spec_fpAt HU1'.out HU2.out HLE.out HLL2.out hpb HXB2.out HYB2.out (by omega)).mono ?_
        rintro e w6 ⟨rfl, hb6⟩
        go_wp2
        go_ret2; exact ⟨by rw [HM.out]; rfl, below_step HB5.out hb6⟩
    · have HM := Lib.hid (show despM p xs ys (n : Int) = some (atM p (xs.take n) (ys.take n) 0) by unfold despM; rw [hA, Int.toNat_natCast, hf, HFA.out hf]; rfl)
      have HXT := Lib.hid (HX.out.head (k := n) (by omega))
      have HYT := Lib.hid (HY.out.head (k := n) (by have := HLL.out; omega))
      have HLT := Lib.hid (show (xs.take n).length = (ys.take n).length by have := HLL.out; simp; omega)
      have HLE := Lib.hid (show (xs.take n).length ≤ 2097152 by simp; omega)
      have HBXT := Lib.hid (show ∀ x ∈ xs.take n, 0 ≤ x ∧ x < p from fun x h => HXB.out x (List.mem_of_mem_take h))
      have HBYT := Lib.hid (show ∀ x ∈ ys.take n, 0 ≤ x ∧ x < p from fun x h => HYB.out x (List.mem_of_mem_take h))
      obtain ⟨b, o, rfl, hbl, -⟩ := hrd.at_ (by simp; omega)
      obtain ⟨b', o', rfl, hbl', -⟩ := hrd'.at_ (by have := HLL.out; simp; omega)
      have htc : (n : Int) ≤ (c : Int) := by omega
      have htc' : (n : Int) ≤ (c' : Int) := by have := HLL.out; omega
      have hc0 : ¬ c = 0 := by omega
      have hc0' : ¬ c' = 0 := by omega
      go_enter Try.func35, Try.ntmps35
      go_wp2_with fail
      refine (c_spec_thAsked HX.out HY.out hlx hly).mono ?_
      rintro e w1 ⟨rfl, hb1⟩
      go_wp2_with fail
      refine (HFT.out _ hb1).mono ?_
      rintro e w2 ⟨rfl, hb2⟩
      rw [hf]
      have HB2 := Lib.hid (below_step hb1 hb2)
      clear hb1 hb2
      go_wp2_with fail
      go_region_held3 (fun w' => Below w2.heap.size w2 w')
        (first | (refine below_step ?_ HD.out; assumption) | (exact (Below.refl _ _).drew))
        (first
          | (go_at_call 50; refine (c_spec_fpAt (HXT.out.below (below_step HB2.out (by assumption))) (HYT.out.below (below_step HB2.out (by assumption))) HLE.out HLT.out hpb HBXT.out HBYT.out (by omega)).mono ?_; rintro e wz ⟨rfl, hb⟩; have HD := Lib.hid hb))
      have hE : Below w2.heap.size w2 wz := by assumption
      go_wp2
      go_ret2; exact ⟨by rw [HM.out]; rfl, below_step HB2.out hE⟩
end Go.Proofs.Ytpeoiemcfpghkaa
