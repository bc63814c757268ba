/- Contracts of 'a polynomial with t coefficients goes through all shares', and of AreShares. Conditions: few shares, elements of the field. -/
import Derived.Test.YtmccfdaaneemfaaThr
import Derived.Deep.RegionHeld3
namespace Go.Proofs.Ytmccfdaaneemfaa
open Go.RowKit
set_option linter.unusedVariables false

theorem belowCell2 {w1 : World} {p : Addr} {v : Value} (h : w1.cell? p = some v) : ∀ w', Below w1.heap.size w1 w' → w'.cell? p = some v := fun w' hb => (hb.cell (World.block_lt_of_cell? w1 _ h)).trans h
theorem range_all_snoc (f : Nat → Bool) (k : Nat) : (List.range (k + 1)).all f = ((List.range k).all f && f k) := by rw [List.range_succ, List.all_append]; simp
theorem range_all_false {f : Nat → Bool} {k n : Nat} (hk : k < n) (h : f k = false) : (List.range n).all f = false := by
  rcases hh : (List.range n).all f with _ | _
  · rfl
  · have := List.all_eq_true.1 hh k (List.mem_range.2 hk); rw [h] at this; cases this
set_option maxRecDepth 100000 in
set_option maxHeartbeats 2000000 in
theorem c_impl_fit {vx vy : Value} {xs ys : List Int} {p : Int} {t : Nat} {w : World} (hx : Ints w vx xs) (hy : Ints w vy ys) (hlx : xs.length ≤ 1000) (hl : xs.length = ys.length) (ht1 : t ≤ 1000) (hp : 2 ≤ p ∧ p ≤ 251) (hb : ∀ x ∈ xs, 0 ≤ x ∧ x < p) (hby : ∀ y ∈ ys, 0 ≤ y ∧ y < p) :
    Calls Try.prog 121 #[.int .i64 p, vx, vy, .int .i64 (t : Int)] w fun e w' => e = .returned (.bool (fitI p xs ys t)) ∧ Below w.heap.size w w' := by
  have HX := Lib.hid hx
  have HY := Lib.hid hy
  obtain ⟨A, c, rfl, hlc, hcm, hrd⟩ := hx
  obtain ⟨A', c', rfl, hlc', hcm', hrd'⟩ := hy
  have HL := Lib.hid hl
  have HBX := Lib.hid hb
  have HBY := Lib.hid hby
  have hly : ys.length ≤ 1000 := by omega
  unfold maxLen at hcm hcm'
  by_cases ht : (xs.length : Int) ≤ (t : Int)
  · have HM := Lib.hid (show fitI p xs ys t = true by unfold fitI; rw [decide_eq_true (by omega)]; rfl)
    go_enter Try.func121, Try.ntmps121
    go_wp2
    go_ret; exact ⟨by rw [HM.out]; rfl, Below.refl _ _⟩
  · have htl : t < xs.length := by omega
    have hty : t < ys.length := by omega
    clear hb hby hl
    obtain ⟨b, o, rfl, hbl, hcells⟩ := hrd.at_ (by simp; omega)
    obtain ⟨b', o', rfl, hbl', hcells'⟩ := hrd'.at_ (by simp; omega)
    have HM := Lib.hid (show fitI p xs ys t = (List.range xs.length).all fun i => (atM p (xs.take t) (ys.take t) (xs.getD i 0) == ys.getD i 0) by unfold fitI; rw [decide_eq_false (by omega)]; rfl)
    have HXT := Lib.hid (HX.out.head (k := t) (by omega))
    have HYT := Lib.hid (HY.out.head (k := t) (by omega))
    have HLT := Lib.hid (show (xs.take t).length = (ys.take t).length by simp; omega)
    have HLE := Lib.hid (show (xs.take t).length ≤ 1000 by simp; omega)
    have HBXT := Lib.hid (show ∀ x ∈ xs.take t, 0 ≤ x ∧ x < p from fun x h => HBX.out x (List.mem_of_mem_take h))
    have HBYT := Lib.hid (show ∀ x ∈ ys.take t, 0 ≤ x ∧ x < p from fun x h => HBY.out x (List.mem_of_mem_take h))
    have HPB := Lib.hid (polyM_bd (p := p) (by omega) (xs.take t) (ys.take t))
    have HPL := Lib.hid (show (polyM p (xs.take t) (ys.take t)).length ≤ 1048576 by rw [polyM_length]; have := HLE.out; omega)
    have HEV := Lib.hid (fun x => eval_poly (p := p) (by omega) HLT.out x)
    have hc0 : ¬ c = 0 := by omega
    have hc0' : ¬ c' = 0 := by omega
    have ht0 : (0 : Int) ≤ (t : Int) := Int.natCast_nonneg _
    have htc : (t : Int) ≤ (c : Int) := by omega
    have htc' : (t : Int) ≤ (c' : Int) := by omega
    have hxp : 0 < xs.length := by omega
    clear hcells hcells' hlc hlc' htl hty
    go_enter Try.func121, Try.ntmps121
    go_wp2_with fail
    go_region_held3 (fun w' => Below w.heap.size w w')
      (first | (refine below_step ?_ HD.out; assumption) | (exact (Below.refl _ _).drew))
      (first
        | (go_at_call 116; refine (c_impl_polyThrough (HXT.out.below (by assumption)) (HYT.out.below (by assumption)) HLE.out HLT.out hp HBXT.out HBYT.out).mono ?_; rintro e wz ⟨u, rfl, hu, hb⟩; have HD := Lib.hid hb; have HU := Lib.hid hu.ints))
    have hE : Below w.heap.size w wz := by assumption
    have HB := Lib.hid hE
    clear hE
    generalize polyM p (xs.take t) (ys.take t) = P at *
    go_wp2
    go_loopw [26] (fun i wr => ∃ k : Nat, k ≤ xs.length ∧ i = .int .i64 k ∧ Hid ((List.range k).all (fun i => (atM p (xs.take t) (ys.take t) (xs.getD i 0) == ys.getD i 0)) = true) ∧ Hid (Below wz.heap.size wz wr)) (fun i _ => xs.length - (intOf i).toNat)
    case atStart => exact ⟨0, Nat.zero_le _, rfl, Lib.hid rfl, Lib.hid (Below.refl _ _)⟩
    case round =>
      obtain ⟨k, hk, rfl, HA, HBZ⟩ := hrel
      by_cases hlt : k < xs.length
      · have HBK := Lib.hid (below_step HB.out HBZ.out)
        obtain ⟨b2, o2, x, e2, hbl2, hxk, hcx⟩ := (hrd.below HBK.out).int_at hlt
        injection e2 with e2; injection e2 with e21 e22; subst e21 e22
        obtain ⟨b3, o3, y, e3, hbl3, hyk, hcy⟩ := (hrd'.below HBK.out).int_at (k := k) (by have := HL.out; omega)
        injection e3 with e3; injection e3 with e31 e32; subst e31 e32
        have hxb := HBX.out x (List.mem_of_getElem? hxk)
        have hlyk : (k : Int) < (ys.length : Int) := by have := HL.out; omega
        have HF := Lib.hid (show (atM p (xs.take t) (ys.take t) (xs.getD k 0) == ys.getD k 0) = (evalM p P x == y) by rw [getD_some hxk, getD_some hyk, ← HEV.out x])
        have HC := Lib.hid (fun W (h : Below wz.heap.size wz W) => c_impl_evalPoly (x := x) (p := p) (HU.out.below h) HPL.out (by omega) (fun z hz => by have := HPB.out z hz; omega) (by omega))
        clear hxk hyk
        generalize evalM p P x = E at *
        rcases hne : (E != y) with _ | _
        · have HT := Lib.hid (show (E == y) = true by simpa using hne)
          go_wp2_with fail
          go_quiet ((go_at_call 115; exact quiet_left (HC.out _ (below_drewN HBZ.out _))))
          go_wp2
          go_roundw
          case rel => exact ⟨k + 1, by omega, by go_num, Lib.hid (by rw [range_all_snoc, HA.out, HF.out, HT.out]; rfl), Lib.hid (below_drewN HBZ.out _)⟩
          case measure => simp [intOf]; omega
        · have HT := Lib.hid (show (E == y) = false by simpa using hne)
          go_wp2_with fail
          go_quiet ((go_at_call 115; exact quiet_left (HC.out _ (below_drewN HBZ.out _))))
          go_wp2
          go_ret
          exact ⟨by rw [HM.out, range_all_false hlt (by rw [HF.out, HT.out])]; rfl, below_drewN HBK.out _⟩
      · have HE := Lib.hid (show k = xs.length by omega)
        go_wp2
        go_ret
        exact ⟨by rw [HM.out]; have := HA.out; rw [HE.out] at this; rw [this]; rfl, below_step HB.out HBZ.out⟩
end Go.Proofs.Ytmccfdaaneemfaa
