/- Contracts of holders and their shares: validity, the joined value, a further share. Conditions: the lists are short. -/
import Derived.Test.YtmccfdaaneemfaaPtsF
namespace Go.Proofs.Ytmccfdaaneemfaa
open Go.RowKit
set_option linter.unusedVariables false

/-- Lists are holders and their shares. -/
noncomputable def holdB (p : Int) (xs ys : List Int) : Bool := ptsB p xs ys && decide ((xs.length : Int) ≤ 10) && !(decide ((0 : Int) ∈ xs))
theorem holdB_of {p : Int} {xs ys : List Int} (h : holdB p xs ys = true) : ptsB p xs ys = true ∧ xs.length ≤ 10 ∧ (0 : Int) ∉ xs := by
  simp only [holdB, Bool.and_eq_true, decide_eq_true_eq] at h
  exact ⟨h.1.1, by omega, by have := h.2; simpa using this⟩
theorem all_ne (xs : List Int) : xs.all (fun x => x != 0) = !(decide ((0 : Int) ∈ xs)) := by
  induction xs with
  | nil => rfl
  | cons a l ih =>
    rw [List.all_cons, ih]
    by_cases h : a = 0
    · subst h; simp
    · have h2 : ¬ (0 : Int) = a := fun e => h e.symm
      simp [h, h2]
theorem enters_holders1 : Enters 142 := by intro args w; simp [callFunc, Try.func142]; kernel_rfl
theorem c_holders1 {x : Int} {w : World} : Calls Try.prog 142 #[.int .i64 x] w fun e w' => e = .returned (.bool (x != 0)) ∧ w = w' := by
  go_enter Try.func142, Try.ntmps142
  go_wp2
  go_ret; exact ⟨rfl, rfl⟩
theorem c_impl_areHolders {vx vy : Value} {xs ys : List Int} {p : Int} {w : World} (hx : Ints w vx xs) (hy : Ints w vy ys) (hlx : xs.length ≤ 2097152) (hly : ys.length ≤ 2097152) :
    Calls Try.prog 114 #[.int .i64 p, vx, vy] w fun e w' => e = .returned (.bool (holdB p xs ys)) ∧ Below w.heap.size w w' := by
  have HX := Lib.hid hx
  have HY := Lib.hid hy
  obtain ⟨A, c, rfl, -⟩ := hx
  obtain ⟨A', c', rfl, -⟩ := hy
  rcases hP : ptsB p xs ys with _ | _
  · go_enter Try.func114, Try.ntmps114
    go_wp2_with fail
    refine (c_impl_arePoints HX.out HY.out hlx hly).mono ?_
    rintro e w1 ⟨rfl, hb1⟩
    go_wp2
    go_ret; exact ⟨by simp [holdB, hP], hb1⟩
  · by_cases h10 : (xs.length : Int) ≤ 10
    · have HM := Lib.hid (show holdB p xs ys = xs.all (fun x => x != 0) by unfold holdB; rw [hP, decide_eq_true h10, all_ne]; rfl)
      go_enter Try.func114, Try.ntmps114
      go_wp2_with fail
      refine (c_impl_arePoints HX.out HY.out hlx hly).mono ?_
      rintro e w1 ⟨rfl, hb1⟩
      go_wp2_with fail
      refine (c_impl_areAll (K := 142) (caps := []) (p := fun x => x != 0) enters_holders1 (HX.out.below hb1) hlx (PredB.same fun W x => c_holders1)).mono ?_
      rintro e w2 ⟨rfl, hb2⟩
      go_wp2
      go_ret; exact ⟨by rw [HM.out]; rfl, below_step hb1 hb2⟩
    · have HM := Lib.hid (show holdB p xs ys = false by unfold holdB; rw [decide_eq_false h10]; simp)
      go_enter Try.func114, Try.ntmps114
      go_wp2_with fail
      refine (c_impl_arePoints HX.out HY.out hlx hly).mono ?_
      rintro e w1 ⟨rfl, hb1⟩
      go_wp2
      go_ret; exact ⟨by rw [HM.out]; rfl, hb1⟩
theorem c_spec_l1Has {v : Value} {l : List Int} {n : Int} {w : World} (h : Ints w v l) (hl : l.length ≤ 2097152) :
    Calls Try.prog 144 #[v, .int .i64 n] w fun e w' => e = .returned (.bool (decide (n ∈ l))) ∧ w = w' := by
  obtain ⟨A, c, rfl, hlc, hcm, hrd⟩ := h
  go_enter Try.func144, Try.ntmps144
  go_wp2
  go_loop [9] (fun i => ∃ k : Nat, k ≤ l.length ∧ i = .int .i64 k ∧ Hid (n ∉ l.take k)) (fun i => l.length - (intOf i).toNat)
  case atStart => exact ⟨0, Nat.zero_le _, rfl, Lib.hid (by simp)⟩
  case round =>
    obtain ⟨k, hk, rfl, HN⟩ := hrel
    by_cases hlt : k < l.length
    · obtain ⟨b, o, x, rfl, hbl, hxk, hcell⟩ := hrd.int_at hlt
      have HM := Lib.hid (List.mem_of_getElem? hxk)
      have HT := Lib.hid (take_snoc hxk)
      clear hxk
      rcases he : x == n with _ | _
      · have HE := Lib.hid (show ¬ n = x by intro e; rw [e] at he; simp at he)
        go_wp2
        go_round
        case rel => exact ⟨k + 1, by omega, by go_num, Lib.hid (by rw [HT.out, List.mem_append]; rintro (h | h); exact HN.out h; exact HE.out (by simpa using h))⟩
        case measure => simp [intOf]; omega
      · have HE := Lib.hid (show decide (n ∈ l) = true by have h1 := HM.out; rw [beq_iff_eq.1 he] at h1; exact decide_eq_true h1)
        go_wp2
        go_ret
        exact ⟨by rw [HE.out]; rfl, rfl⟩
    · have HE := Lib.hid (show decide (n ∈ l) = false by have := HN.out; rw [List.take_of_length_le (by omega)] at this; exact decide_eq_false this)
      go_wp2
      go_ret
      exact ⟨by rw [HE.out]; rfl, rfl⟩
theorem c_spec_thGood {vx vy : Value} {xs ys : List Int} {p : Int} {w : World} (hx : Ints w vx xs) (hy : Ints w vy ys) (hlx : xs.length ≤ 2097152) (hly : ys.length ≤ 2097152) :
    Calls Try.prog 117 #[.int .i64 p, vx, vy] w fun e w' => e = .returned (.bool (holdB p xs ys)) ∧ Below w.heap.size w w' := by
  have HX := Lib.hid hx
  have HY := Lib.hid hy
  obtain ⟨A, c, rfl, -⟩ := hx
  obtain ⟨A', c', rfl, -⟩ := hy
  rcases hP : ptsB p xs ys with _ | _
  · go_enter Try.func117, Try.ntmps117
    go_wp2_with fail
    refine (c_spec_fpPoints HX.out HY.out hlx hly).mono ?_
    rintro e w1 ⟨rfl, hb1⟩
    go_wp2
    go_ret; exact ⟨by simp [holdB, hP], hb1⟩
  · by_cases h10 : (xs.length : Int) ≤ 10
    · have HM := Lib.hid (show holdB p xs ys = !(decide ((0 : Int) ∈ xs)) by unfold holdB; rw [hP, decide_eq_true h10]; rfl)
      go_enter Try.func117, Try.ntmps117
      go_wp2_with fail
      refine (c_spec_fpPoints HX.out HY.out hlx hly).mono ?_
      rintro e w1 ⟨rfl, hb1⟩
      go_wp2_with fail
      refine (c_spec_l1Has (HX.out.below hb1) hlx).mono ?_
      rintro e w2 ⟨rfl, rfl⟩
      go_wp2
      go_ret; exact ⟨by rw [HM.out]; rfl, hb1⟩
    · have HM := Lib.hid (show holdB p xs ys = false by unfold holdB; rw [decide_eq_false h10]; simp)
      go_enter Try.func117, Try.ntmps117
      go_wp2_with fail
      refine (c_spec_fpPoints HX.out HY.out hlx hly).mono ?_
      rintro e w1 ⟨rfl, hb1⟩
      go_wp2
      go_ret; exact ⟨by rw [HM.out]; rfl, hb1⟩
noncomputable def joinTM (p : Int) (xs ys : List Int) : Option Int := if holdB p xs ys && !((xs.length : Int) == 0) then some (atM p xs ys 0) else none
noncomputable def shareM (p : Int) (xs ys : List Int) (x : Int) : Option Int := if holdB p xs ys && inB x 0 (p - 1) then some (atM p xs ys x) else none
theorem share_inter {p : Int} {xs ys : List Int} {x : Int} (h : holdB p xs ys = true) : shareM p xs ys x = interM p xs ys x := by
  unfold shareM interM; rw [h, (holdB_of h).1]
set_option maxRecDepth 100000 in
set_option maxHeartbeats 1000000 in
theorem c_impl_JoinThreshold {vx vy : Value} {xs ys : List Int} {p : Int} {w : World} (hx : Ints w vx xs) (hy : Ints w vy ys) (hlx : xs.length ≤ 2097152) (hly : ys.length ≤ 2097152) :
    Calls Try.prog 58 #[.int .i64 p, vx, vy] w fun e w' => e = .returned (.tuple #[.int .i64 (oV (joinTM p xs ys)), .bool (oB (joinTM p xs ys))]) ∧ Below w.heap.size w w' := by
  have HX := Lib.hid hx
  have HY := Lib.hid hy
  obtain ⟨A, c, rfl, -⟩ := hx
  obtain ⟨A', c', rfl, -⟩ := hy
  rcases hP : holdB p xs ys with _ | _
  · have HM := Lib.hid (show joinTM p xs ys = none by unfold joinTM; rw [hP]; rfl)
    go_enter Try.func58, Try.ntmps58
    go_wp2_with fail
    refine (c_impl_areHolders HX.out HY.out hlx hly).mono ?_
    rintro e w1 ⟨rfl, hb1⟩
    go_wp2
    go_ret2; exact ⟨by rw [HM.out]; rfl, hb1⟩
  · obtain ⟨hpr, hpb, hxb, hyb, hlen, hll, hnd⟩ := ptsB_of (holdB_of hP).1
    have HXB := Lib.hid hxb
    have HYB := Lib.hid hyb
    have HLL := Lib.hid hll
    clear hpr hxb hyb hll hnd
    rcases hI : ((xs.length : Int) == 0) with _ | _
    · have HM := Lib.hid (show joinTM p xs ys = some (atM p xs ys 0) by unfold joinTM; rw [hP, hI]; rfl)
      have HEP := Lib.hid (eval_poly (p := p) (by omega) HLL.out 0)
      go_enter Try.func58, Try.ntmps58
      go_wp2_with fail
      refine (c_impl_areHolders HX.out HY.out hlx hly).mono ?_
      rintro e w1 ⟨rfl, hb1⟩
      go_wp2_with fail
      refine (c_impl_polyThrough (HX.out.below hb1) (HY.out.below hb1) (by omega) HLL.out hpb HXB.out HYB.out).mono ?_
      rintro e w2 ⟨u, rfl, hu, hb2⟩
      have HU := Lib.hid hu.ints
      clear hu
      go_wp2_with fail
      refine (c_impl_evalPoly HU.out (by rw [polyM_length]; omega) (by omega) (fun z hz => by have := polyM_bd (p := p) (by omega) xs ys z hz; omega) (by omega)).mono ?_
      rintro e w3 ⟨rfl, rfl⟩
      go_wp2
      go_ret2; exact ⟨by rw [HM.out, ← HEP.out]; rfl, below_step hb1 hb2⟩
    · have HM := Lib.hid (show joinTM p xs ys = none by unfold joinTM; rw [hP, hI]; rfl)
      go_enter Try.func58, Try.ntmps58
      go_wp2_with fail
      refine (c_impl_areHolders HX.out HY.out hlx hly).mono ?_
      rintro e w1 ⟨rfl, hb1⟩
      go_wp2
      go_ret2; exact ⟨by rw [HM.out]; rfl, hb1⟩
set_option maxRecDepth 100000 in
set_option maxHeartbeats 1000000 in
theorem c_spec_JoinThreshold {vx vy : Value} {xs ys : List Int} {p : Int} {w : World} (hx : Ints w vx xs) (hy : Ints w vy ys) (hlx : xs.length ≤ 2097152) (hly : ys.length ≤ 2097152) :
    Calls Try.prog 59 #[.int .i64 p, vx, vy] w fun e w' => e = .returned (.tuple #[.int .i64 (oV (joinTM p xs ys)), .bool (oB (joinTM p xs ys))]) ∧ Below w.heap.size w w' := by
  have HX := Lib.hid hx
  have HY := Lib.hid hy
  obtain ⟨A, c, rfl, -⟩ := hx
  obtain ⟨A', c', rfl, -⟩ := hy
  rcases hP : holdB p xs ys with _ | _
  · have HM := Lib.hid (show joinTM p xs ys = none by unfold joinTM; rw [hP]; rfl)
    go_enter Try.func59, Try.ntmps59
    go_wp2_with fail
    refine (c_spec_thGood HX.out HY.out hlx hly).mono ?_
    rintro e w1 ⟨rfl, hb1⟩
    go_wp2
    go_ret2; exact ⟨by rw [HM.out]; rfl, hb1⟩
  · obtain ⟨hpr, hpb, hxb, hyb, hlen, hll, hnd⟩ := ptsB_of (holdB_of hP).1
    have HXB := Lib.hid hxb
    have HYB := Lib.hid hyb
    have HLL := Lib.hid hll
    clear hpr hxb hyb hll hnd
    rcases hI : ((xs.length : Int) == 0) with _ | _
    · have HM := Lib.hid (show joinTM p xs ys = some (atM p xs ys 0) by unfold joinTM; rw [hP, hI]; rfl)
      go_enter Try.func59, Try.ntmps59
      go_wp2_with fail
      refine (c_spec_thGood HX.out HY.out hlx hly).mono ?_
      rintro e w1 ⟨rfl, hb1⟩
      go_wp2_with fail
      refine (c_spec_fpAt (HX.out.below hb1) (HY.out.below hb1) hlx HLL.out hpb HXB.out HYB.out (by omega)).mono ?_
      rintro e w2 ⟨rfl, hb2⟩
      go_wp2
      go_ret2; exact ⟨by rw [HM.out]; rfl, below_step hb1 hb2⟩
    · have HM := Lib.hid (show joinTM p xs ys = none by unfold joinTM; rw [hP, hI]; rfl)
      go_enter Try.func59, Try.ntmps59
      go_wp2_with fail
      refine (c_spec_thGood HX.out HY.out hlx hly).mono ?_
      rintro e w1 ⟨rfl, hb1⟩
      go_wp2
      go_ret2; exact ⟨by rw [HM.out]; rfl, hb1⟩
theorem c_impl_ShareFor {vx vy : Value} {xs ys : List Int} {p x : Int} {w : World} (hx : Ints w vx xs) (hy : Ints w vy ys) (hlx : xs.length ≤ 2097152) (hly : ys.length ≤ 2097152) :
    Calls Try.prog 63 #[.int .i64 p, vx, vy, .int .i64 x] w fun e w' => e = .returned (.tuple #[.int .i64 (oV (shareM p xs ys x)), .bool (oB (shareM p xs ys x))]) ∧ Below w.heap.size w w' := by
  have HX := Lib.hid hx
  have HY := Lib.hid hy
  obtain ⟨A, c, rfl, -⟩ := hx
  obtain ⟨A', c', rfl, -⟩ := hy
  rcases hP : holdB p xs ys with _ | _
  · have HM := Lib.hid (show shareM p xs ys x = none by unfold shareM; rw [hP]; rfl)
    go_enter Try.func63, Try.ntmps63
    go_wp2_with fail
    refine (c_impl_areHolders HX.out HY.out hlx hly).mono ?_
    rintro e w1 ⟨rfl, hb1⟩
    go_wp2
    go_ret2; exact ⟨by rw [HM.out]; rfl, hb1⟩
  · have HM := Lib.hid (share_inter (x := x) hP)
    go_enter Try.func63, Try.ntmps63
    go_wp2_with fail
    refine (c_impl_areHolders HX.out HY.out hlx hly).mono ?_
    rintro e w1 ⟨rfl, hb1⟩
    go_wp2_with fail
    refine (c_impl_InterpolateAt (HX.out.below hb1) (HY.out.below hb1) hlx hly).mono ?_
    rintro e w2 ⟨rfl, hb2⟩
    go_wp2
    go_ret2; exact ⟨by rw [HM.out]; rfl, below_step hb1 hb2⟩
end Go.Proofs.Ytmccfdaaneemfaa
