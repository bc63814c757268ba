/- Contracts of the labels of all wires, the program's. Conditions: the circuit, the tables and the inputs are valid. -/
import Derived.Test.YtejeppjmlgfiaaaGreatWir
import Derived.Deep.RegionHeld3
namespace Go.Proofs.YtejeppjmlgfiaaaGreat
open Go.RowKit
set_option linter.unusedVariables false

theorem c_impl_cipher {n x y : Int} {w : World} (hn : -1000000000000 ≤ n ∧ n ≤ 1000000000000) (hx : -1000000000000 ≤ x ∧ x ≤ 1000000000000) (hy : -1000000000000 ≤ y ∧ y ≤ 1000000000000) :
    Calls Tryz.prog 146 #[.int .i64 n, .int .i64 x, .int .i64 y] w fun e w' => e = .returned (.int .i64 (digM [n, 14, x, y])) ∧ Below w.heap.size w w' := by
  go_enter Tryz.func146, Tryz.ntmps146
  go_wp2_with fail
  refine (c_impl_digest (l := [n, 14, x, y]) (ints_lit w [n, 14, x, y] _ rfl (by simp)) (by simp) (bd4 hn (by omega) hx hy)).mono ?_
  rintro e w1 ⟨rfl, hb1⟩
  go_wp2
  go_ret
  exact ⟨rfl, ((Below.refl _ _).alloc (Nat.le_refl _) _).trans (hb1.mono (by simp))⟩
theorem c_spec_gbCipher {n x y : Int} {w : World} (hn : -1000000000000 ≤ n ∧ n ≤ 1000000000000) (hx : -1000000000000 ≤ x ∧ x ≤ 1000000000000) (hy : -1000000000000 ≤ y ∧ y ≤ 1000000000000) :
    Calls Tryz.prog 148 #[.int .i64 n, .int .i64 x, .int .i64 y] w fun e w' => e = .returned (.int .i64 (digM [n, 14, x, y])) ∧ Below w.heap.size w w' := by
  go_enter Tryz.func148, Tryz.ntmps148
  go_wp2_with fail
  refine (c_spec_dgLabel hn (by omega) hx hy).mono ?_
  rintro e w1 ⟨rfl, hb1⟩
  go_wp2
  go_ret
  exact ⟨rfl, hb1⟩
theorem row3 {w : World} {v : Value} {r : List Int} (h : Ints w v r) (hl : (r.length : Int) = 3) : ∃ b o c r0 r1 r2, r = [r0, r1, r2] ∧ v = .slice (some ⟨b, o, none⟩) 3 c ∧ 3 ≤ c ∧ w.cell? ⟨b, o, none⟩ = some (.int .i64 r0) ∧ w.cell? ⟨b, o + 1, none⟩ = some (.int .i64 r1) ∧ w.cell? ⟨b, o + 2, none⟩ = some (.int .i64 r2) := by
  match r, hl with
  | [r0, r1, r2], _ =>
    obtain ⟨A, c, rfl, hlc, _, hrd⟩ := h
    obtain ⟨b, o, x, rfl, _, hx, hc0⟩ := hrd.int_at (k := 0) (by simp)
    obtain ⟨b1, o1, x1, e1, _, hx1, hc1⟩ := hrd.int_at (k := 1) (by simp)
    obtain ⟨b2, o2, x2, e2, _, hx2, hc2⟩ := hrd.int_at (k := 2) (by simp)
    injection e1 with e1; injection e1 with e1 e1'; subst e1 e1'
    injection e2 with e2; injection e2 with e2 e2'; subst e2 e2'
    simp at hx hx1 hx2
    subst hx hx1 hx2
    exact ⟨_, _, c, _, _, _, rfl, rfl, hlc, by simpa using hc0, hc1, hc2⟩
theorem row2 {w : World} {v : Value} {r : List Int} (h : Ints w v r) (hl : (r.length : Int) = 2) : ∃ b o c r0 r1, r = [r0, r1] ∧ v = .slice (some ⟨b, o, none⟩) 2 c ∧ 2 ≤ c ∧ w.cell? ⟨b, o, none⟩ = some (.int .i64 r0) ∧ w.cell? ⟨b, o + 1, none⟩ = some (.int .i64 r1) := by
  match r, hl with
  | [r0, r1], _ =>
    obtain ⟨A, c, rfl, hlc, _, hrd⟩ := h
    obtain ⟨b, o, x, rfl, _, hx, hc0⟩ := hrd.int_at (k := 0) (by simp)
    obtain ⟨b1, o1, x1, e1, _, hx1, hc1⟩ := hrd.int_at (k := 1) (by simp)
    injection e1 with e1; injection e1 with e1 e1'; subst e1 e1'
    simp at hx hx1
    subst hx hx1
    exact ⟨_, _, c, _, _, rfl, rfl, hlc, by simpa using hc0, hc1⟩

set_option maxHeartbeats 400000 in
theorem c_impl_openedAnd {n x y : Int} {r : List Int} {rv : Value} {w : World} (hn : 0 ≤ n ∧ n ≤ 1000000) (hx : 0 ≤ x ∧ x ≤ 65535) (hy : 0 ≤ y ∧ y ≤ 65535) (h : Ints w rv r) (hl : (r.length : Int) = 3) (hr : ∀ z ∈ r, 0 ≤ z ∧ z ≤ 65535) :
    Calls Tryz.prog 95 #[.int .i64 n, .int .i64 x, .int .i64 y, rv] w fun e w' => e = .returned (.int .i64 (openM n x y r)) ∧ Below w.heap.size w w' := by
  obtain ⟨b, o, c, r0, r1, r2, rfl, rfl, hc3, hc0, hc1, hc2⟩ := row3 h hl
  have hr0 := hr r0 (by simp)
  have hr1 := hr r1 (by simp)
  have hr2 := hr r2 (by simp)
  have hax := bits_and_one hx.1 (by omega)
  have hay := bits_and_one hy.1 (by omega)
  have Q0 := Lib.hid hc0
  have Q1 := Lib.hid hc1
  have Q2 := Lib.hid hc2
  have hx2 : x % 2 = 0 ∨ x % 2 = 1 := by omega
  have hy2 : y % 2 = 0 ∨ y % 2 = 1 := by omega
  clear h hl hr hc0 hc1 hc2
  have HM := Lib.hid (show openM n x y [r0, r1, r2] = if 0 < 2 * (x % 2) + y % 2 then xorI (digM [n, 14, x, y]) (elt [r0, r1, r2] (2 * (x % 2) + y % 2 - 1)) else digM [n, 14, x, y] from rfl)
  have hdb := digM_bd [n, 14, x, y]
  have HC := Lib.hid (c_impl_cipher (w := w) (n := n) (x := x) (y := y) (by omega) (by omega) (by omega))
  generalize digM [n, 14, x, y] = d at *
  generalize openM n x y [r0, r1, r2] = m at *
  have hx0 := bits_xor hdb.1 hr0.1 (by omega) (by omega)
  have hx1 := bits_xor hdb.1 hr1.1 (by omega) (by omega)
  have hx3 := bits_xor hdb.1 hr2.1 (by omega) (by omega)
  rcases hx2 with e1 | e1 <;> rcases hy2 with e2 | e2 <;> rw [e1] at hax HM <;> rw [e2] at hay HM
  all_goals
    clear e1 e2
    go_enter Tryz.func95, Tryz.ntmps95
    go_wp2_with fail
    refine HC.out.mono ?_
    rintro e w1 ⟨rfl, hb1⟩
    have p0 := belowCell Q0.out w1 hb1
    have p1 := belowCell Q1.out w1 hb1
    have p2 := belowCell Q2.out w1 hb1
    go_wp2
    go_ret
    exact ⟨by rw [HM.out]; simp [elt], hb1⟩
set_option maxHeartbeats 800000 in
theorem c_impl_joinedAnd {n u v : Int} {r : List Int} {rv : Value} {w : World} (hn : 0 ≤ n ∧ n ≤ 1000000) (hu : 0 ≤ u ∧ u ≤ 65535) (hv : 0 ≤ v ∧ v ≤ 65535) (h : Ints w rv r) (hl : (r.length : Int) = 2) (hr : ∀ z ∈ r, 0 ≤ z ∧ z ≤ 65535) :
    Calls Tryz.prog 88 #[.int .i64 n, .int .i64 u, .int .i64 v, rv] w fun e w' => e = .returned (.int .i64 (joinM n u v r)) ∧ Below w.heap.size w w' := by
  obtain ⟨b, o, c, r0, r1, rfl, rfl, hc3, hc0, hc1⟩ := row2 h hl
  have hr0 := hr r0 (by simp)
  have hr1 := hr r1 (by simp)
  have hax := bits_and_one hu.1 (by omega)
  have hay := bits_and_one hv.1 (by omega)
  have q0 := belowCell hc0
  have q1 := belowCell hc1
  have hu2 : u % 2 = 0 ∨ u % 2 = 1 := by omega
  have hv2 : v % 2 = 0 ∨ v % 2 = 1 := by omega
  clear h hl hr hc0 hc1
  have HM := Lib.hid (show joinM n u v [r0, r1] = xorI (xorI (xorI (digM [n, 15, u, 0]) (r0 * (u % 2))) (digM [n, 15, v, 1])) (xorI r1 u * (v % 2)) from rfl)
  have hd0 := digM_bd [n, 15, u, 0]
  have hd1 := digM_bd [n, 15, v, 1]
  have HC0 := Lib.hid (fun W => c_impl_half (w := W) (n := n) (l := u) (s := 0) (by omega) (by omega) (by omega))
  have HC1 := Lib.hid (fun W => c_impl_half (w := W) (n := n) (l := v) (s := 1) (by omega) (by omega) (by omega))
  generalize digM [n, 15, u, 0] = d0 at *
  generalize digM [n, 15, v, 1] = d1 at *
  generalize joinM n u v [r0, r1] = m at *
  have hY := xorI_bd hr1.1 hu.1 hr1.2 hu.2
  have hxY := bits_xor hr1.1 hu.1 (by omega) (by omega)
  generalize xorI r1 u = Y at *
  have wr0 : IntKind.i64.wrap r0 = r0 := IntWalk.i64_in _ (by omega)
  have wY : IntKind.i64.wrap Y = Y := IntWalk.i64_in _ (by omega)
  have w0 : IntKind.i64.wrap 0 = 0 := IntWalk.i64_in _ (by omega)
  rcases hu2 with e1 | e1 <;> rcases hv2 with e2 | e2 <;> rw [e1] at hax HM <;> rw [e2] at hay HM <;> simp only [Int.mul_zero, Int.mul_one] at HM
  all_goals
    clear e1 e2
    have z0 := bits_xor hd0.1 (show (0 : Int) ≤ 0 by omega) (by omega) (by omega)
    have z1 := bits_xor hd0.1 hr0.1 (by omega) (by omega)
    have b0 := xorI_bd hd0.1 (show (0 : Int) ≤ 0 by omega) hd0.2 (by omega)
    have b1 := xorI_bd hd0.1 hr0.1 hd0.2 hr0.2
    have z2 := bits_xor b0.1 hd1.1 (by omega) (by omega)
    have z3 := bits_xor b1.1 hd1.1 (by omega) (by omega)
    have b2 := xorI_bd b0.1 hd1.1 b0.2 hd1.2
    have b3 := xorI_bd b1.1 hd1.1 b1.2 hd1.2
    have z4 := bits_xor b2.1 (show (0 : Int) ≤ 0 by omega) (by omega) (by omega)
    have z5 := bits_xor b3.1 (show (0 : Int) ≤ 0 by omega) (by omega) (by omega)
    have z6 := bits_xor b2.1 hY.1 (by omega) (by omega)
    have z7 := bits_xor b3.1 hY.1 (by omega) (by omega)
    go_enter Tryz.func88, Tryz.ntmps88
    go_wp2_with fail
    go_region_held3 (fun w' => Below w.heap.size w w')
      (first | (refine below_step ?_ HD.out; assumption) | (exact (Below.refl _ _).drew))
      (first
        | (go_at_call_of 127 (Value.int IntKind.i64 0); refine (HC0.out _).mono ?_; rintro e wa ⟨rfl, hb⟩; have HD := Lib.hid hb)
        | (go_at_call_of 127 (Value.int IntKind.i64 1); refine (HC1.out _).mono ?_; rintro e wa ⟨rfl, hb⟩; have HD := Lib.hid hb))
    all_goals
      go_wp2
      go_ret
      exact ⟨by rw [HM.out]; rfl, by assumption⟩
end Go.Proofs.YtejeppjmlgfiaaaGreat
