/- The walk of the law on systems of equations: its Go text returns true for all arguments. No condition. -/
import Derived.Test.YtjijghfagaigbaaGauU
namespace Go.Proofs.Ytjijghfagaigbaa
open Go.RowKit
set_option linter.unusedVariables false

theorem elimN_length (p : Int) (c : Nat) (M : List (List Int)) : ∀ i, (elimN p c M i).length = M.length
  | 0 => rfl
  | i + 1 => by
    rw [elimN_succ]
    unfold elimR
    split
    · exact elimN_length p c M i
    · rw [List.length_set]; exact elimN_length p c M i
theorem stepG_length (p : Int) (n c : Nat) (M : List (List Int)) : (stepG p n c M).length = M.length := by
  unfold stepG; rw [elimN_length, List.length_set]; simp [swapM]
theorem gaussF_length (p : Int) (n : Nat) : ∀ (f c : Nat) (M M' : List (List Int)), gaussF p n f c M = some M' → M'.length = M.length
  | 0, c, M, M', h => by simp [gaussF] at h; rw [h]
  | f + 1, c, M, M', h => by
    simp only [gaussF] at h
    split at h
    · cases h
    · rw [gaussF_length p n f (c + 1) _ M' h, stepG_length]
theorem linM_len (p : Int) (rows : List (List Int)) (right : List Int) : ((linM p rows right).getD []).length ≤ rows.length := by
  unfold linM
  split
  · unfold squareM
    cases h : gaussF p rows.length rows.length 0 (augM rows right rows.length) with
    | none => simp
    | some M =>
      have := gaussF_length p _ _ _ _ _ h
      rw [augM_length] at this
      simp [lastM, this]
  · simp
theorem ofLt {N : Nat} {u v : Value} (hu : ∀ g, u.ownBlock = some g → g < N) (hv : ∀ g, v.ownBlock = some g → N ≤ g) : Apt u v := Apt.ofLt hu hv

set_option maxRecDepth 100000 in
set_option maxHeartbeats 4000000 in
theorem w_FnExactSolveLinear (w : World) {p : Int} {va vb : Value} {rows : List (List Int)} {right : List Int} (hp : -9223372036854775808 ≤ p ∧ p ≤ 9223372036854775807) (ha : RowsIn w va rows) (hb : Ints w vb right) :
    Calls Try.prog 3 #[.int .i64 p, va, vb] w fun e w' => e = .returned (.bool true) ∧ Below w.heap.size w w' := by
  have HX := Lib.hid ha
  have HY := Lib.hid hb
  obtain ⟨A, c, rfl, -⟩ := ha.form
  obtain ⟨A', c', rfl, -⟩ := hb
  clear ha
  by_cases k2 : right.length ≤ 1048576
  rotate_left
  · go_enter Try.func3, Try.ntmps3
    go_wp2
    go_ret; exact ⟨rfl, Below.refl _ _⟩
  by_cases hs : szRM 1048576 rows < 0
  · have hsn := szRM_neg hs
    have HSZ := Lib.hid (c_laws_szIntSS (left := 1048576) HX.out (by omega))
    rw [hsn] at HSZ
    clear hs hsn
    go_enter Try.func3, Try.ntmps3
    go_wp2_with fail
    refine HSZ.out.mono ?_
    rintro e w' ⟨rfl, rfl⟩
    go_wp2
    go_ret; exact ⟨rfl, Below.refl _ _⟩
  have hsb := szRM_bd hs
  have HSZ := Lib.hid (c_laws_szIntSS (left := 1048576) HX.out (by omega))
  have hcn : cntR rows ≤ 1048576 := by omega
  have hrl : rows.length ≤ 1048576 := by omega
  have HRL := Lib.hid (show ∀ r ∈ rows, r.length ≤ 1048576 by
    intro r hr
    obtain ⟨i, hi⟩ := List.getElem?_of_mem hr
    have := cntR_len hi
    omega)
  have HRL2 := Lib.hid (show ∀ r ∈ rows, r.length ≤ 2097152 from fun r hr => Nat.le_trans (HRL.out r hr) (by omega))
  have hM : ((linM p rows right).getD []).length ≤ 2097152 := Nat.le_trans (linM_len p rows right) (by omega)
  clear hsb
  generalize szRM 1048576 rows = sz at *
  generalize hC : cntR rows = C at *
  have HC := Lib.hid hC
  clear hC
  go_enter Try.func3, Try.ntmps3
  go_wp2_with fail
  refine HSZ.out.mono ?_
  rintro e w' ⟨rfl, rfl⟩
  go_wp2_with fail
  refine (c_laws_toIntSS HX.out hrl HRL.out).mono ?_
  rintro e w1 ⟨s1, vs1, rfl, o1, b1⟩
  have O1 := Lib.hid o1
  have B1 := Lib.hid b1
  clear o1 b1
  go_wp2_with fail
  refine (c_laws_toIntS (HY.out.below B1.out) k2).mono ?_
  rintro e w2 ⟨s2, rfl, o2, b2⟩
  have O2 := Lib.hid o2
  have B2 := Lib.hid (below_step B1.out b2)
  replace O1 := Lib.hid (O1.out.below b2)
  clear o2 b2 B1
  go_wp2_with fail
  refine (c_spec_SolveLinear O1.out.rowsIn O2.out.ints (by omega) (by omega) HRL2.out).mono ?_
  rintro e w3 ⟨u0, rfl, o3, b3⟩
  have LU : Hid (∀ g, u0.ownBlock = some g → g < w3.heap.size) := Lib.hid o3.lt
  have OU := Lib.hid o3
  have B3 := Lib.hid (below_step B2.out b3)
  clear o3 b3 B2 O1 O2
  go_wp2_with fail
  refine (c_laws_toIntSS (HX.out.below B3.out) hrl HRL.out).mono ?_
  rintro e w4 ⟨x1, vx, rfl, o4, b4⟩
  have OX := Lib.hid o4
  have LX := Lib.hid o4.bd
  replace OU := Lib.hid (OU.out.below b4)
  have hs34 := b4.size
  have hs3 := B3.out.size
  have B4 := Lib.hid (below_step B3.out b4)
  clear o4 b4 B3
  go_wp2_with fail
  refine (c_laws_toIntS (HY.out.below B4.out) k2).mono ?_
  rintro e w5 ⟨x2, rfl, o5, b5⟩
  have OY := Lib.hid o5
  have LY : Hid (∀ g, x2.ownBlock = some g → g < w5.heap.size) := Lib.hid o5.lt
  replace OU := Lib.hid (OU.out.below b5)
  replace OX := Lib.hid (OX.out.below b5)
  have hs45 := b5.size
  have B5 := Lib.hid (below_step B4.out b5)
  clear o5 b5 B4
  go_wp2_with fail
  refine (c_impl_SolveLinear OX.out.rowsIn OY.out.ints (by omega) (by omega) HRL.out).mono ?_
  rintro e w6 ⟨g0, rfl, o6, b6⟩
  have OG := Lib.hid o6
  replace OU := Lib.hid (OU.out.below b6)
  replace OX := Lib.hid (OX.out.below b6)
  replace OY := Lib.hid (OY.out.below b6)
  have B6 := Lib.hid (below_step B5.out b6)
  clear o6 b6 B5
  go_wp2_with fail
  refine (c_laws_eqIntS OG.out.ints OU.out.ints hM).mono ?_
  rintro e w7 ⟨rfl, b7⟩
  replace OU := Lib.hid (OU.out.below b7)
  replace OX := Lib.hid (OX.out.below b7)
  replace OY := Lib.hid (OY.out.below b7)
  replace OG := Lib.hid (OG.out.below b7)
  have B7 := Lib.hid (below_step B6.out b7)
  clear b7 B6
  go_wp2_with fail
  refine (c_laws_toIntSS (HX.out.below B7.out) hrl HRL.out).mono ?_
  rintro e w8 ⟨y1, vy, rfl, o8, b8⟩
  have O8 := Lib.hid o8
  replace OU := Lib.hid (OU.out.below b8)
  replace OX := Lib.hid (OX.out.below b8)
  replace OY := Lib.hid (OY.out.below b8)
  replace OG := Lib.hid (OG.out.below b8)
  have B8 := Lib.hid (below_step B7.out b8)
  clear o8 b8 B7
  go_wp2_with fail
  refine (c_laws_eqIntSS OX.out.rowsIn O8.out.rowsIn (by omega) HRL2.out).mono ?_
  rintro e w9 ⟨rfl, b9⟩
  replace OU := Lib.hid (OU.out.below b9)
  replace OX := Lib.hid (OX.out.below b9)
  replace OY := Lib.hid (OY.out.below b9)
  replace OG := Lib.hid (OG.out.below b9)
  have B9 := Lib.hid (below_step B8.out b9)
  clear b9 B8 O8
  go_wp2_with fail
  refine (c_laws_toIntS (HY.out.below B9.out) k2).mono ?_
  rintro e w10 ⟨y2, rfl, o10, b10⟩
  have O10 := Lib.hid o10
  replace OU := Lib.hid (OU.out.below b10)
  replace OX := Lib.hid (OX.out.below b10)
  replace OY := Lib.hid (OY.out.below b10)
  replace OG := Lib.hid (OG.out.below b10)
  have B10 := Lib.hid (below_step B9.out b10)
  clear o10 b10 B9
  go_wp2_with fail
  refine (c_laws_eqIntS OY.out.ints O10.out.ints (by omega)).mono ?_
  rintro e w11 ⟨rfl, b11⟩
  replace OU := Lib.hid (OU.out.below b11)
  replace OX := Lib.hid (OX.out.below b11)
  replace OY := Lib.hid (OY.out.below b11)
  replace OG := Lib.hid (OG.out.below b11)
  have B11 := Lib.hid (below_step B10.out b11)
  clear b11 B10 O10
  go_wp2_with fail
  refine (c_laws_markIntSS OX.out (by omega) (by rw [HC.out]; omega) (by omega)).mono ?_
  rw [HC.out]
  rintro e w12 ⟨rfl, -, b12⟩
  have bx : ∀ u ∈ x1 :: vx, ∀ g, u.ownBlock = some g → w.heap.size ≤ g := fun u hu g hg => by have := (LX.out u hu g hg).1; omega
  replace OU := Lib.hid (OU.out.only b12 fun u hu => (ofLt LU.out fun g hg => (LX.out u hu g hg).1).symm)
  replace OY := Lib.hid (OY.out.only b12 fun u hu => ofLt (fun g hg => (LX.out u hu g hg).2) OY.out.ge)
  replace OG := Lib.hid (OG.out.only b12 fun u hu => ofLt (fun g hg => (LX.out u hu g hg).2) fun g hg => Nat.le_trans hs45 (OG.out.ge g hg))
  have B12 := Lib.hid (B11.out.trans (b12.below B11.out.size bx))
  clear b12 B11 OX bx LX
  go_wp2_with fail
  refine (c_laws_markIntS OY.out (by omega) (by omega)).mono ?_
  rintro e w13 ⟨rfl, -, b13⟩
  replace OU := Lib.hid (OU.out.grown b13 (apart_old (fun g hg => Nat.le_trans hs34 (OY.out.ge g hg)) LU.out))
  replace OG := Lib.hid (OG.out.grown b13 (apart_new OG.out.ge LY.out))
  have B13 := Lib.hid (below_row B12.out b13 fun g hg => Nat.le_trans hs3 (Nat.le_trans hs34 (OY.out.ge g hg)))
  clear b13 B12 OY LY
  go_wp2_with fail
  refine (c_laws_eqIntS OG.out.ints OU.out.ints hM).mono ?_
  rintro e w14 ⟨rfl, b14⟩
  replace OU := Lib.hid (OU.out.below b14)
  replace OG := Lib.hid (OG.out.below b14)
  have B14 := Lib.hid (below_step B13.out b14)
  clear b14 B13
  go_wp2_with fail
  refine (c_laws_markIntS OG.out hM (by omega)).mono ?_
  rintro e w15 ⟨rfl, o15, b15⟩
  replace OU := Lib.hid (OU.out.grown b15 (apart_old (fun g hg => Nat.le_trans hs34 (Nat.le_trans hs45 (OG.out.ge g hg))) LU.out))
  have B15 := Lib.hid (below_row B14.out b15 fun g hg => Nat.le_trans hs3 (Nat.le_trans hs34 (Nat.le_trans hs45 (OG.out.ge g hg))))
  replace OG := Lib.hid o15
  clear o15 b15 B14 LU
  go_wp2_with fail
  refine (c_laws_heldIntS (n := ((linM p rows right).getD []).length) OG.out.ints hM (by omega)).mono ?_
  rintro e w' ⟨rfl, rfl⟩
  go_wp2_with fail
  refine (c_laws_toIntSS (HX.out.below B15.out) hrl HRL.out).mono ?_
  rintro e w16 ⟨z1, vz, rfl, o16, b16⟩
  have O16 := Lib.hid o16
  replace OU := Lib.hid (OU.out.below b16)
  replace OG := Lib.hid (OG.out.below b16)
  have B16 := Lib.hid (below_step B15.out b16)
  clear o16 b16 B15
  go_wp2_with fail
  refine (c_laws_toIntS (HY.out.below B16.out) k2).mono ?_
  rintro e w17 ⟨z2, rfl, o17, b17⟩
  have O17 := Lib.hid o17
  replace O16 := Lib.hid (O16.out.below b17)
  replace OU := Lib.hid (OU.out.below b17)
  replace OG := Lib.hid (OG.out.below b17)
  have B17 := Lib.hid (below_step B16.out b17)
  clear o17 b17 B16
  go_wp2_with fail
  refine (c_impl_SolveLinear O16.out.rowsIn O17.out.ints (by omega) (by omega) HRL.out).mono ?_
  rintro e w18 ⟨h0, rfl, o18, b18⟩
  have OH := Lib.hid o18
  replace OU := Lib.hid (OU.out.below b18)
  replace OG := Lib.hid (OG.out.below b18)
  have B18 := Lib.hid (below_step B17.out b18)
  clear o18 b18 B17 O16 O17
  go_wp2_with fail
  refine (c_laws_eqIntS OH.out.ints OU.out.ints hM).mono ?_
  rintro e w19 ⟨rfl, b19⟩
  replace OG := Lib.hid (OG.out.below b19)
  have B19 := Lib.hid (below_step B18.out b19)
  clear b19 B18 OH OU
  go_wp2_with fail
  refine (c_laws_heldIntS (n := ((linM p rows right).getD []).length) OG.out.ints hM (by omega)).mono ?_
  rintro e w' ⟨rfl, rfl⟩
  go_wp2
  go_ret
  exact ⟨rfl, B19.out⟩
end Go.Proofs.Ytjijghfagaigbaa
