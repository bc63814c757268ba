/- Contracts of the exported functions on points: a value, the coefficients. Conditions: the lists are short. -/
import Derived.Test.YtmccfdaaneemfaaPtsD
namespace Go.Proofs.Ytmccfdaaneemfaa
open Go.RowKit
set_option linter.unusedVariables false

noncomputable def interM (p : Int) (xs ys : List Int) (x : Int) : Option Int := if ptsB p xs ys && inB x 0 (p - 1) then some (atM p xs ys x) else none
theorem inB_no {n lo hi : Int} (h : ¬ (lo ≤ n ∧ n ≤ hi)) : inB n lo hi = false := by
  rcases hb : inB n lo hi with _ | _
  · rfl
  · exact absurd (inB_bd hb) h
set_option maxRecDepth 100000 in
set_option maxHeartbeats 1000000 in
theorem c_impl_InterpolateAt {vx vy : Value} {xs ys : List Int} {p x : Int} {w : World} (hx : Ints w vx xs) (hy : Ints w vy ys) (hlx : xs.length ≤ 2097152) (hly : ys.length ≤ 2097152) :
    Calls Try.prog 120 #[.int .i64 p, vx, vy, .int .i64 x] w fun e w' => e = .returned (.tuple #[.int .i64 (oV (interM p xs ys x)), .bool (oB (interM p xs ys x))]) ∧ Below w.heap.size w w' := by
  have HX := Lib.hid hx
  have HY := Lib.hid hy
  obtain ⟨A, c, rfl, -⟩ := hx
  obtain ⟨A', c', rfl, -⟩ := hy
  rcases hP : ptsB p xs ys with _ | _
  · have HM := Lib.hid (show interM p xs ys x = none by unfold interM; rw [hP]; rfl)
    go_enter Try.func120, Try.ntmps120
    go_wp2_with fail
    refine (c_impl_arePoints HX.out HY.out hlx hly).mono ?_
    rintro e w1 ⟨rfl, hb1⟩
    go_wp2
    go_ret2; exact ⟨by rw [HM.out]; rfl, hb1⟩
  · obtain ⟨hpr, hpb, hxb, hyb, hlen, hll, hnd⟩ := ptsB_of hP
    have HXB := Lib.hid hxb
    have HYB := Lib.hid hyb
    have HLL := Lib.hid hll
    clear hpr hxb hyb hll hnd
    have hf : fldB p = true := by
      have := hP; simp only [ptsB, Bool.and_eq_true] at this; exact (fpInB_of this.1.1.1.1).1
    rcases hI : inB x 0 (p - 1) with _ | _
    · have HM := Lib.hid (show interM p xs ys x = none by unfold interM; rw [hP, hI]; rfl)
      have hE : elemB p x = false := by unfold elemB; rw [hf, hI]; rfl
      go_enter Try.func120, Try.ntmps120
      go_wp2_with fail
      refine (c_impl_arePoints HX.out HY.out hlx hly).mono ?_
      rintro e w1 ⟨rfl, hb1⟩
      go_wp2_with (go_at_call 66; refine (c_impl_isElement).mono ?_; rintro e w' ⟨rfl, rfl⟩)
      go_ret2; exact ⟨by rw [HM.out]; rfl, hb1⟩
    · have HM := Lib.hid (show interM p xs ys x = some (atM p xs ys x) by unfold interM; rw [hP, hI]; rfl)
      have hE : elemB p x = true := by unfold elemB; rw [hf, hI]; rfl
      have hxb := inB_bd hI
      have HEP := Lib.hid (eval_poly (p := p) (by omega) HLL.out x)
      go_enter Try.func120, Try.ntmps120
      go_wp2_with fail
      refine (c_impl_arePoints HX.out HY.out hlx hly).mono ?_
      rintro e w1 ⟨rfl, hb1⟩
      go_wp2_with (go_at_call 66; refine (c_impl_isElement).mono ?_; rintro e w' ⟨rfl, rfl⟩)
      refine (c_impl_polyThrough (HX.out.below hb1) (HY.out.below hb1) (by omega) HLL.out hpb HXB.out HYB.out).mono ?_
      rintro e w2 ⟨u, rfl, hu, hb2⟩
      have HU := Lib.hid hu.ints
      clear hu
      go_wp2_with fail
      refine (c_impl_evalPoly HU.out (by rw [polyM_length]; omega) (by omega) (fun z hz => by have := polyM_bd (p := p) (by omega) xs ys z hz; omega) (by omega)).mono ?_
      rintro e w3 ⟨rfl, rfl⟩
      go_wp2
      go_ret2; exact ⟨by rw [HM.out, ← HEP.out]; rfl, below_step hb1 hb2⟩
end Go.Proofs.Ytmccfdaaneemfaa
