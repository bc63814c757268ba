/- Contracts of the reference's zero labels: of a gate GtAnd, its rows, and of all wires. Conditions: the circuit, the key and the offset are valid. -/
import Derived.Test.YtejeppjmlgfiaaaGreatGa7
import Derived.Test.YtejeppjmlgfiaaaGreatWirU
import Derived.Test.YtejeppjmlgfiaaaGreatInpL
import Derived.Test.YtejeppjmlgfiaaaGreatCirF
import Derived.Deep.RegionLaw
import Derived.Test.YtejeppjmlgfiaaaGreatSta
import Derived.Test.YtejeppjmlgfiaaaGreatInp
import Derived.Test.YtejeppjmlgfiaaaGreatCol
import Derived.Test.YtejeppjmlgfiaaaGreatGbK
import Derived.Test.YtejeppjmlgfiaaaGreatEv
namespace Go.Proofs.YtejeppjmlgfiaaaGreat
open Go.RowKit
set_option linter.unusedVariables false

theorem gbZ_eq {off n x y : Int} : gbZ off n x y = xorI (digM [n, 14, xorI x (off * (x % 2)), xorI y (off * (y % 2))]) (off * (x % 2 * (y % 2))) := by
  unfold gbZ gbOwnM
  rw [xorI_zero (show 0 ≤ x % 2 by omega), xorI_zero (show 0 ≤ y % 2 by omega)]
theorem gbRow_eq {off n x y p q : Int} : gbRow off n x y p q = xorI (xorI (digM [n, 14, xorI x (off * xorI (x % 2) p), xorI y (off * xorI (y % 2) q)]) (gbZ off n x y)) (off * (xorI (x % 2) p * xorI (y % 2) q)) := by
  unfold gbRow gbOwnM
  rw [xorI_assoc]
theorem mul_bd {u r : Int} (hu : u = 0 ∨ u = 1) (hr : 0 ≤ r ∧ r ≤ 65535) : -9223372036854775808 ≤ u * r ∧ u * r ≤ 9223372036854775807 := by rcases hu with rfl | rfl <;> omega
theorem c_spec_otKey {n : Int} {w : World} : Calls Tryz.prog 61 #[.int .i64 n] w fun e w' => e = .returned (.bool (inB n 0 1000000000)) ∧ w = w' := by
  rcases h : inB n 0 1000000000 with _ | _
  all_goals
    go_enter Tryz.func61, Tryz.ntmps61
    go_wp2_with (go_at_call 117; refine (c_spec_l1In).mono ?_; rintro e w' ⟨rfl, rfl⟩)
    go_ret
    exact ⟨by simp [*], rfl⟩
set_option maxHeartbeats 1000000 in
theorem c_spec_gbZero {off n x y : Int} {w : World} (ho : 0 ≤ off ∧ off ≤ 65535) (hn : 0 ≤ n ∧ n ≤ 1000000) (hx : 0 ≤ x ∧ x ≤ 65535) (hy : 0 ≤ y ∧ y ≤ 65535) :
    Calls Tryz.prog 150 #[.int .i64 n, .int .i64 x, .int .i64 y, .int .i64 off] w fun e w' => e = .returned (.int .i64 (gbZ off n x y)) ∧ Below w.heap.size w w' := by
  have HE := Lib.hid (gbZ_eq (off := off) (n := n) (x := x) (y := y))
  have hZ := gbZ_bd ho n x y
  generalize gbZ off n x y = Z at *
  have ta := tmod2 hx.1
  have tb := tmod2 hy.1
  have hu := bit2 x
  have hv := bit2 y
  generalize x % 2 = u at *
  generalize y % 2 = v at *
  have za := label_xor hx ho hu
  have zb := label_xor hy ho hv
  have ba := xorI_bd hx.1 (off_bit ho hu).1 hx.2 (off_bit ho hu).2
  have bb := xorI_bd hy.1 (off_bit ho hv).1 hy.2 (off_bit ho hv).2
  have HC := Lib.hid (fun W => c_spec_gbCipher (w := W) (n := n) (x := xorI x (off * u)) (y := xorI y (off * v)) (by omega) (by omega) (by omega))
  have hd := digM_bd [n, 14, xorI x (off * u), xorI y (off * v)]
  have huv := mul_bit hu hv
  have zz := label_xor hd ho huv
  rw [← HE.out] at zz
  have za2 := bits_and_bit hu hv
  have m1 := mul_bd hu ho
  have m2 := mul_bd hv ho
  have m3 := mul_bd huv ho
  generalize digM [n, 14, xorI x (off * u), xorI y (off * v)] = d at *
  generalize xorI x (off * u) = a at *
  generalize xorI y (off * v) = b at *
  clear HE hu hv hd
  go_enter Tryz.func150, Tryz.ntmps150
  go_wp2_with fail
  refine (HC.out _).mono ?_
  rintro e w1 ⟨rfl, hb1⟩
  go_wp2
  go_ret
  exact ⟨rfl, hb1⟩
set_option maxRecDepth 100000 in
set_option maxHeartbeats 2000000 in
theorem c_spec_gbRows {off n x y Z : Int} {w : World} (hZ : Z = gbZ off n x y) (ho : 0 ≤ off ∧ off ≤ 65535) (hn : 0 ≤ n ∧ n ≤ 1000000) (hx : 0 ≤ x ∧ x ≤ 65535) (hy : 0 ≤ y ∧ y ≤ 65535) :
    Calls Tryz.prog 147 #[.int .i64 n, .int .i64 x, .int .i64 y, .int .i64 Z, .int .i64 off] w (RetI w (gbR off n x y)) := by
  have hz := gbZ_bd ho n x y
  have ta := tmod2 hx.1
  have tb := tmod2 hy.1
  have HZZ := Lib.hid hZ
  rw [← hZ] at hz
  clear hZ
  go_enter Tryz.func147, Tryz.ntmps147
  go_wp2
  go_loopw [11, 12] (fun u i wr => ∃ k : Nat, 1 ≤ k ∧ k ≤ 4 ∧ i = .int .i64 k ∧ Hid (OwnI wr w.heap.size u ((gbR off n x y).take (k - 1))) ∧ Hid (Below w.heap.size w wr)) (fun _ i _ => 4 - (intOf i).toNat)
  case atStart => exact ⟨1, by omega, by omega, rfl, Lib.hid (OwnI.nil _ _), Lib.hid (Below.refl _ _)⟩
  case round =>
    obtain ⟨k, hk1, hk, rfl, HU, HB⟩ := hrel
    have hk5 : k = 1 ∨ k = 2 ∨ k = 3 ∨ k = 4 := by omega
    rcases hk5 with rfl | rfl | rfl | rfl
    · replace HU := Lib.hid (show OwnI wr w.heap.size _ [] from HU.out)
      have hu := xor_bit (b := 0) (bit2 x) (Or.inl rfl)
      have hv := xor_bit (b := 1) (bit2 y) (Or.inr rfl)
      have HE := Lib.hid (gbRow_eq (off := off) (n := n) (x := x) (y := y) (p := 0) (q := 1))
      rw [← HZZ.out] at HE
      have HRE := Lib.hid (show (gbR off n x y).take 1 = [] ++ [gbRow off n x y 0 1] from rfl)
      have hrow := gbRow_bd ho n x y (p := 0) (q := 1) (Or.inl rfl) (Or.inr rfl)
      have zu := bits_xor (a := x % 2) (b := 0) (by omega) (by omega) (by omega) (by omega)
      have zv := bits_xor (a := y % 2) (b := 1) (by omega) (by omega) (by omega) (by omega)
      generalize gbRow off n x y 0 1 = row at *
      generalize xorI (x % 2) 0 = u at *
      generalize xorI (y % 2) 1 = v at *
      generalize x % 2 = x2 at *
      generalize y % 2 = y2 at *
      have za := label_xor hx ho hu
      have zb := label_xor hy ho hv
      have ba := xorI_bd hx.1 (off_bit ho hu).1 hx.2 (off_bit ho hu).2
      have bb := xorI_bd hy.1 (off_bit ho hv).1 hy.2 (off_bit ho hv).2
      have HC := Lib.hid (fun W => c_spec_gbCipher (w := W) (n := n) (x := xorI x (off * u)) (y := xorI y (off * v)) (by omega) (by omega) (by omega))
      have hd := digM_bd [n, 14, xorI x (off * u), xorI y (off * v)]
      have huv := mul_bit hu hv
      have zd := bits_xor hd.1 hz.1 (by omega) (by omega)
      have bd := xorI_bd hd.1 hz.1 hd.2 hz.2
      have zz := label_xor bd ho huv
      rw [← HE.out] at zz
      have za2 := bits_and_bit hu hv
      have m1 := mul_bd hu ho
      have m2 := mul_bd hv ho
      have m3 := mul_bd huv ho
      generalize xorI (digM [n, 14, xorI x (off * u), xorI y (off * v)]) Z = dz at *
      generalize digM [n, 14, xorI x (off * u), xorI y (off * v)] = d at *
      generalize xorI x (off * u) = a at *
      generalize xorI y (off * v) = b at *
      clear HE hu hv hd
      go_wp2_with fail
      refine (HC.out _).mono ?_
      rintro e w1 ⟨rfl, hb1⟩
      have HB1 := Lib.hid (below_step HB.out hb1)
      have HO1 := Lib.hid (HU.out.below hb1)
      obtain ⟨Au, cu, rfl, -⟩ := HO1.out.ints
      clear hb1 HC
      have hsz := HB1.out.size
      go_wp2_with (at_builtin; refine wp_app1 (B := w.heap.size) rfl rfl Tryz.underlying24 info_int rfl HO1.out rfl rfl rfl (by unfold maxLen; simp) (by simp) hsz ?_; intro v' w2 ho2 hg hfr)
      have HB2 := Lib.hid (below_app HB1.out HO1.out hg (Nat.le_refl _))
      go_roundw
      case rel => exact ⟨2, by omega, by omega, by go_num, Lib.hid (by show OwnI _ _ _ ((gbR off n x y).take 1); rw [HRE.out]; exact OwnI.snoc ho2), HB2⟩
      case measure => simp [intOf]
    · replace HU := Lib.hid (show OwnI wr w.heap.size _ [gbRow off n x y 0 1] from HU.out)
      have hu := xor_bit (b := 1) (bit2 x) (Or.inr rfl)
      have hv := xor_bit (b := 0) (bit2 y) (Or.inl rfl)
      have HE := Lib.hid (gbRow_eq (off := off) (n := n) (x := x) (y := y) (p := 1) (q := 0))
      rw [← HZZ.out] at HE
      have HRE := Lib.hid (show (gbR off n x y).take 2 = [gbRow off n x y 0 1] ++ [gbRow off n x y 1 0] from rfl)
      have hrow := gbRow_bd ho n x y (p := 1) (q := 0) (Or.inr rfl) (Or.inl rfl)
      have zu := bits_xor (a := x % 2) (b := 1) (by omega) (by omega) (by omega) (by omega)
      have zv := bits_xor (a := y % 2) (b := 0) (by omega) (by omega) (by omega) (by omega)
      generalize gbRow off n x y 1 0 = row at *
      generalize xorI (x % 2) 1 = u at *
      generalize xorI (y % 2) 0 = v at *
      generalize x % 2 = x2 at *
      generalize y % 2 = y2 at *
      have za := label_xor hx ho hu
      have zb := label_xor hy ho hv
      have ba := xorI_bd hx.1 (off_bit ho hu).1 hx.2 (off_bit ho hu).2
      have bb := xorI_bd hy.1 (off_bit ho hv).1 hy.2 (off_bit ho hv).2
      have HC := Lib.hid (fun W => c_spec_gbCipher (w := W) (n := n) (x := xorI x (off * u)) (y := xorI y (off * v)) (by omega) (by omega) (by omega))
      have hd := digM_bd [n, 14, xorI x (off * u), xorI y (off * v)]
      have huv := mul_bit hu hv
      have zd := bits_xor hd.1 hz.1 (by omega) (by omega)
      have bd := xorI_bd hd.1 hz.1 hd.2 hz.2
      have zz := label_xor bd ho huv
      rw [← HE.out] at zz
      have za2 := bits_and_bit hu hv
      have m1 := mul_bd hu ho
      have m2 := mul_bd hv ho
      have m3 := mul_bd huv ho
      generalize xorI (digM [n, 14, xorI x (off * u), xorI y (off * v)]) Z = dz at *
      generalize digM [n, 14, xorI x (off * u), xorI y (off * v)] = d at *
      generalize xorI x (off * u) = a at *
      generalize xorI y (off * v) = b at *
      clear HE hu hv hd
      go_wp2_with fail
      refine (HC.out _).mono ?_
      rintro e w1 ⟨rfl, hb1⟩
      have HB1 := Lib.hid (below_step HB.out hb1)
      have HO1 := Lib.hid (HU.out.below hb1)
      obtain ⟨Au, cu, rfl, -⟩ := HO1.out.ints
      clear hb1 HC
      have hsz := HB1.out.size
      go_wp2_with (at_builtin; refine wp_app1 (B := w.heap.size) rfl rfl Tryz.underlying24 info_int rfl HO1.out rfl rfl rfl (by unfold maxLen; simp) (by simp) hsz ?_; intro v' w2 ho2 hg hfr)
      have HB2 := Lib.hid (below_app HB1.out HO1.out hg (Nat.le_refl _))
      go_roundw
      case rel => exact ⟨3, by omega, by omega, by go_num, Lib.hid (by show OwnI _ _ _ ((gbR off n x y).take 2); rw [HRE.out]; exact OwnI.snoc ho2), HB2⟩
      case measure => simp [intOf]
    · replace HU := Lib.hid (show OwnI wr w.heap.size _ [gbRow off n x y 0 1, gbRow off n x y 1 0] from HU.out)
      have hu := xor_bit (b := 1) (bit2 x) (Or.inr rfl)
      have hv := xor_bit (b := 1) (bit2 y) (Or.inr rfl)
      have HE := Lib.hid (gbRow_eq (off := off) (n := n) (x := x) (y := y) (p := 1) (q := 1))
      rw [← HZZ.out] at HE
      have HRE := Lib.hid (show (gbR off n x y).take 3 = [gbRow off n x y 0 1, gbRow off n x y 1 0] ++ [gbRow off n x y 1 1] from rfl)
      have hrow := gbRow_bd ho n x y (p := 1) (q := 1) (Or.inr rfl) (Or.inr rfl)
      have zu := bits_xor (a := x % 2) (b := 1) (by omega) (by omega) (by omega) (by omega)
      have zv := bits_xor (a := y % 2) (b := 1) (by omega) (by omega) (by omega) (by omega)
      generalize gbRow off n x y 1 1 = row at *
      generalize xorI (x % 2) 1 = u at *
      generalize xorI (y % 2) 1 = v at *
      generalize x % 2 = x2 at *
      generalize y % 2 = y2 at *
      have za := label_xor hx ho hu
      have zb := label_xor hy ho hv
      have ba := xorI_bd hx.1 (off_bit ho hu).1 hx.2 (off_bit ho hu).2
      have bb := xorI_bd hy.1 (off_bit ho hv).1 hy.2 (off_bit ho hv).2
      have HC := Lib.hid (fun W => c_spec_gbCipher (w := W) (n := n) (x := xorI x (off * u)) (y := xorI y (off * v)) (by omega) (by omega) (by omega))
      have hd := digM_bd [n, 14, xorI x (off * u), xorI y (off * v)]
      have huv := mul_bit hu hv
      have zd := bits_xor hd.1 hz.1 (by omega) (by omega)
      have bd := xorI_bd hd.1 hz.1 hd.2 hz.2
      have zz := label_xor bd ho huv
      rw [← HE.out] at zz
      have za2 := bits_and_bit hu hv
      have m1 := mul_bd hu ho
      have m2 := mul_bd hv ho
      have m3 := mul_bd huv ho
      generalize xorI (digM [n, 14, xorI x (off * u), xorI y (off * v)]) Z = dz at *
      generalize digM [n, 14, xorI x (off * u), xorI y (off * v)] = d at *
      generalize xorI x (off * u) = a at *
      generalize xorI y (off * v) = b at *
      clear HE hu hv hd
      go_wp2_with fail
      refine (HC.out _).mono ?_
      rintro e w1 ⟨rfl, hb1⟩
      have HB1 := Lib.hid (below_step HB.out hb1)
      have HO1 := Lib.hid (HU.out.below hb1)
      obtain ⟨Au, cu, rfl, -⟩ := HO1.out.ints
      clear hb1 HC
      have hsz := HB1.out.size
      go_wp2_with (at_builtin; refine wp_app1 (B := w.heap.size) rfl rfl Tryz.underlying24 info_int rfl HO1.out rfl rfl rfl (by unfold maxLen; simp) (by simp) hsz ?_; intro v' w2 ho2 hg hfr)
      have HB2 := Lib.hid (below_app HB1.out HO1.out hg (Nat.le_refl _))
      go_roundw
      case rel => exact ⟨4, by omega, by omega, by go_num, Lib.hid (by show OwnI _ _ _ ((gbR off n x y).take 3); rw [HRE.out]; exact OwnI.snoc ho2), HB2⟩
      case measure => simp [intOf]
    · go_wp2
      go_ret
      exact RetI.mk HU.out HB.out
theorem grown_alloc (w : World) (o : Obj) {w' : World} {b : Option Nat} (h : (w.alloc o).grownBy w' b) : w.grownBy w' b := by
  obtain ⟨a1, a2, a3, a4, a5⟩ := h
  exact ⟨a1, a2, a3, by simp at a4; omega, fun i hi hn => by rw [a5 i (by simp; omega) hn]; exact Below.heap_alloc _ _ _ hi⟩
set_option maxRecDepth 100000 in
set_option maxHeartbeats 4000000 in
theorem c_spec_gbZeros {c : Cir} {gv ov : Value} {key off : Int} {w : World} (h : CirIn w gv ov c) (hc : cirB c = true) (hk : 0 ≤ key ∧ key ≤ 1000000000) (ho : 0 ≤ off ∧ off ≤ 65535) :
    Calls Tryz.prog 101 #[cirV c gv ov, .int .i64 key, .int .i64 off] w (RetI w (zrM (gbZ off) (gbR off) key off c.ins.toNat c.gs).zs) := by
  have hbd := cirB_bd hc
  have hgl : c.gs.length ≤ 300 := hbd.2.2.2.2.1
  have hins : 0 ≤ c.ins ∧ c.ins ≤ 40 := by unfold Cir.ins; omega
  have HGB := Lib.hid (cirB_gates hc)
  have HKB := Lib.hid (cirB_kinds hc)
  have HBD := Lib.hid (zr_bd (m := 3) (F := gbZ off) (R := gbR off) ho (fun w x y _ _ => gbZ_bd ho w x y) (fun w x y _ _ => gbR_bd ho w x y) key c.ins.toNat)
  have hi4 : 0 ≤ c.i0 ∧ c.i0 ≤ 20 ∧ 0 ≤ c.i1 ∧ c.i1 ≤ 20 := by omega
  have H := Lib.hid h
  obtain ⟨hg, hoo⟩ := h
  obtain ⟨A, cg, rfl, hlg, hmg, hrg⟩ := hg
  obtain ⟨A', co, rfl, -⟩ := hoo
  have HRG := Lib.hid hrg
  unfold maxLen at hmg
  clear hc hbd hrg
  obtain ⟨N, hN⟩ : ∃ N : Nat, c.ins = (N : Int) := ⟨c.ins.toNat, by omega⟩
  have hN2 : c.ins.toNat = N := by omega
  rw [hN2] at HBD
  have HN := Lib.hid hN
  have hI := (fun W (hW : Below w.heap.size w W) => c_spec_ciInputs (H.out.below hW) hi4)
  rw [hN] at hI
  have HI := Lib.hid hI
  have hN40 : (N : Int) ≤ 40 := by omega
  clear hN hN2 hI hins
  unfold cirV at HI ⊢
  have HB0 : Hid (Below w.heap.size w (w.alloc (.cells #[.int .i64 c.i0, .int .i64 c.i1, .slice A c.gs.length cg, .slice A' c.outs.length co] 26))) := Lib.hid ((Below.refl w.heap.size w).alloc (Nat.le_refl _) _)
  have HKC0 := Lib.hid (Blk.new w 26 #[.int .i64 c.i0, .int .i64 c.i1, .slice A c.gs.length cg, .slice A' c.outs.length co])
  go_enter Tryz.func101, Tryz.ntmps101
  go_wp2
  go_loopw [7, 8] (fun u i wr => ∃ k : Nat, k ≤ N ∧ i = .int .i64 k ∧ Hid (OwnI wr (w.heap.size + 1) u (zIns key k)) ∧ Hid (Below w.heap.size w wr) ∧ w.heap.size + 1 ≤ wr.heap.size ∧ Hid (Blk wr w.heap.size 26 #[.int .i64 c.i0, .int .i64 c.i1, .slice A c.gs.length cg, .slice A' c.outs.length co])) (fun _ i _ => N - (intOf i).toNat)
  case atStart => exact ⟨0, Nat.zero_le _, rfl, Lib.hid (OwnI.nil _ _), HB0, by simp, HKC0⟩
  case round =>
    obtain ⟨k, hk2, rfl, HO, HB, hzr, HKC⟩ := hrel
    clear HB0 HKC0
    obtain ⟨wa, rfl⟩ : ∃ W, W = wr := ⟨wr, rfl⟩
    have x0 : wa.cell? ⟨w.heap.size, 0, none⟩ = some (.int .i64 c.i0) := HKC.out.cell 0
    have x1 : wa.cell? ⟨w.heap.size, 1, none⟩ = some (.int .i64 c.i1) := HKC.out.cell 1
    have x2 : wa.cell? ⟨w.heap.size, 2, none⟩ = some (.slice A c.gs.length cg) := HKC.out.cell 2
    have x3 : wa.cell? ⟨w.heap.size, 3, none⟩ = some (.slice A' c.outs.length co) := HKC.out.cell 3
    go_wp2_with fail
    refine (HI.out _ HB.out).mono ?_
    rintro e w1 ⟨rfl, hb1⟩
    replace HO := Lib.hid (HO.out.below hb1)
    replace HB := Lib.hid (below_step HB.out hb1)
    replace HKC := Lib.hid (HKC.out.step hb1)
    replace hzr := Nat.le_trans hzr hb1.size
    clear hb1 x0 x1 x2 x3
    by_cases hlt : k < N
    · go_wp2_with fail
      refine (c_spec_lbZero (by omega) (by omega)).mono ?_
      rintro e w2 ⟨rfl, hb2⟩
      have hdb := digM_bd [key, (k : Int), 13, 0]
      have HS := Lib.hid (zIns_snoc key k)
      generalize digM [key, (k : Int), 13, 0] = z at *
      have HO2 := Lib.hid (HO.out.below hb2)
      have HB2 := Lib.hid (below_step HB.out hb2)
      have HKC2 := Lib.hid (HKC.out.step hb2)
      have hz2 := Nat.le_trans hzr hb2.size
      have hlen : (zIns key k).length ≤ 40 := by rw [zIns_length]; omega
      clear hb2 HO HB HKC
      go_wp2_with (at_builtin; refine wp_app1 (B := w.heap.size + 1) rfl rfl Tryz.underlying24 info_int rfl HO2.out rfl rfl rfl (by unfold maxLen; omega) (by omega) hz2 ?_; intro v' w9 ho hg hfr)
      have HBn := Lib.hid (below_app HB2.out (own_mono HO2.out (Nat.le_add_right _ 1)) hg (Nat.le_refl _))
      have HKn := Lib.hid (HKC2.out.grown hg (fun e => by have := HO2.out.ge _ e.symm; omega))
      have hzn := Nat.le_trans hz2 hg.size
      go_roundw
      case rel => exact ⟨k + 1, by omega, by go_num, by rw [HS.out]; exact Lib.hid (OwnI.snoc ho), HBn, hzn, HKn⟩
      case measure => simp [intOf]; omega
    · obtain rfl : k = N := by omega
      have x2 : w1.cell? ⟨w.heap.size, 2, none⟩ = some (.slice A c.gs.length cg) := HKC.out.cell 2
      have HO1 := HO
      have HB1 := HB
      have hzr1 := hzr
      clear HKC HO HB
      go_wp2
      clear x2
      go_loopw [7, 27] (fun u i wr => ∃ (j : Nat), j ≤ c.gs.length ∧ i = .int .i64 j ∧ Hid (OwnI wr (w.heap.size + 1) u (zrM (gbZ off) (gbR off) key off k (c.gs.take j)).zs) ∧ Hid (Below w.heap.size w wr) ∧ w.heap.size + 1 ≤ wr.heap.size) (fun _ i _ => c.gs.length - (intOf i).toNat)
      case atStart => exact ⟨0, Nat.zero_le _, rfl, HO1, HB1, hzr1⟩
      case round =>
        obtain ⟨j, hj, rfl, HO, HB, hzw⟩ := hrel
        clear HO1 HB1
        by_cases hjl : j < c.gs.length
        · obtain ⟨b, o, g, rfl, hbl, hgk, c0, c1', c2'⟩ := (HRG.out.below HB.out).gate_at hjl
          have hgb := gate_ab (gatesB_at _ _ j g HGB.out hgk)
          obtain ⟨i1, i2, i3⟩ := zr_inv (F := gbZ off) (R := gbR off) (key := key) (off := off) (n := k) HKB.out j (by omega)
          have HS := Lib.hid (zr_snoc (F := gbZ off) (R := gbR off) (key := key) (off := off) (n := k) hgk)
          obtain ⟨hbs, hbr, -⟩ := HBD.out (c.gs.take j)
          have hcl1 := cnt_le 1 c.gs j
          have hcb1 := cnt_bd 1 c.gs
          generalize hs : zrM (gbZ off) (gbR off) key off k (c.gs.take j) = s at *
          clear hs hgk
          obtain ⟨gk, ga, gb⟩ := g
          obtain ⟨l, rows, ones⟩ := s
          simp only at c0 c1' c2' hgb i1 i2 i3 hbs hbr HO
          obtain ⟨Au, cu, rfl, hlu, hmu, hru⟩ := own_form HO.out
          unfold maxLen at hmu
          have hll : (l.length : Int) = k + j := by omega
          have hl340 : l.length ≤ 340 := by have := HN.out; omega
          have hrl : rows.length ≤ 300 := by omega
          have HLL := Lib.hid hll
          have HBS := Lib.hid hbs
          have HRU := Lib.hid hru
          have HNN := HN.out
          rw [HNN] at hgb
          obtain ⟨wb, hwb⟩ : ∃ W, wr.alloc (.cells #[.int .i64 gk, .int .i64 ga, .int .i64 gb] 117) = W := ⟨_, rfl⟩
          have hbb : Below wr.heap.size wr wb := by rw [← hwb]; exact (Below.refl _ _).alloc (Nat.le_refl _) _
          have HBX : Hid (Blk wb wr.heap.size 117 #[.int .i64 gk, .int .i64 ga, .int .i64 gb]) := by rw [← hwb]; exact Blk.new _ _ _
          have y0 : wb.cell? ⟨wr.heap.size, 0, none⟩ = some (.int .i64 gk) := HBX.out.cell 0
          have y1 : wb.cell? ⟨wr.heap.size, 1, none⟩ = some (.int .i64 ga) := HBX.out.cell 1
          have y2 : wb.cell? ⟨wr.heap.size, 2, none⟩ = some (.int .i64 gb) := HBX.out.cell 2
          have HBB := Lib.hid hbb
          have HB2 := Lib.hid (below_step HB.out hbb)
          have HO2 := Lib.hid (HO.out.below hbb)
          have hsz : w.heap.size + 1 ≤ wb.heap.size := Nat.le_trans hzw HBB.out.size
          clear hbb hll hbs hru HB HO hlu hmu HNN hcl1 hcb1 i2 i3 hbr hlt
          have hkk : gk = 0 ∨ gk = 1 ∨ gk = 2 ∨ gk = 3 := by omega
          rcases hkk with rfl | rfl | rfl | rfl
          · -- exclusive-or
            have hab := hgb.2.1 (Or.inl rfl)
            obtain ⟨ja, rfl, hja, hea⟩ := elt_at (l := l) hab.1 (by have := HLL.out; omega)
            obtain ⟨jb, rfl, hjb, heb⟩ := elt_at (l := l) hab.2.2.1 (by have := HLL.out; omega)
            obtain ⟨bo, oo, xa, rfl, hbo, hxa, hca⟩ := (HRU.out.below HBB.out).int_at hja
            obtain ⟨bo2, oo2, xb, e2, hbo2, hxb, hcb⟩ := (HRU.out.below HBB.out).int_at hjb
            injection e2 with e2; injection e2 with e2 e2'; subst e2 e2'
            have exa := hea.symm.trans hxa
            have exb := heb.symm.trans hxb
            injection exa with exa
            injection exb with exb
            have ba := elt_bd (k := (ja : Int)) HBS.out
            have bb := elt_bd (k := (jb : Int)) HBS.out
            rw [exa] at ba
            rw [exb] at bb
            have hxor := bits_xor ba.1 bb.1 (by omega) (by omega)
            have HW := Lib.hid (show zStep (gbZ off) (gbR off) key off ⟨l, rows, ones⟩ ⟨0, (ja : Int), (jb : Int)⟩ = ⟨l ++ [xorI xa xb], rows, ones⟩ by unfold zStep; simp only [if_true]; rw [exa, exb])
            clear hgb hea heb hxa hxb exa exb hab i1
            have hja0 : (0 : Int) ≤ (ja : Int) := Int.natCast_nonneg _
            have hja1 : (ja : Int) < (l.length : Int) := by omega
            have hjb0 : (0 : Int) ≤ (jb : Int) := Int.natCast_nonneg _
            have hjb1 : (jb : Int) < (l.length : Int) := by omega
            have HO4 := Lib.hid (own_drew HO2.out)
            have hszd : w.heap.size + 1 ≤ wb.drew.heap.size := hsz
            go_wp2_with fail
            go_region_law (first
              | (refine step_app1 (B := w.heap.size + 1) (by rfl) (by rfl) Tryz.underlying24 info_int rfl (World.ownsRow.alloc HO4.out _) (cell_new _ _ _) (by rfl) (by rfl) rfl (by unfold maxLen; omega) (by omega) (by simp; omega) ?_; intro v' w9 ho hg hfr))
            all_goals
              have hg2 := grown_alloc (wb.drew) (.cells #[.int .i64 (xorI xa xb)] 3) hg
              have HZn := Lib.hid (OwnI.snoc ho)
              have HBn := Lib.hid (below_app HB2.out.drew (own_mono HO4.out (Nat.le_add_right _ 1)) hg2 (Nat.le_refl _))
              have hzn : w.heap.size + 1 ≤ w9.heap.size := Nat.le_trans hsz hg2.size
              go_wp2
              go_roundw
              case rel => exact ⟨j + 1, by omega, by go_num, by rw [HS.out, HW.out]; exact HZn, HBn, hzn⟩
              case measure => simp [intOf]; omega
          · -- and
            have hab := hgb.2.1 (Or.inr rfl)
            obtain ⟨ja, rfl, hja, hea⟩ := elt_at (l := l) hab.1 (by have := HLL.out; omega)
            obtain ⟨jb, rfl, hjb, heb⟩ := elt_at (l := l) hab.2.2.1 (by have := HLL.out; omega)
            obtain ⟨bo, oo, xa, rfl, hbo, hxa, hca⟩ := (HRU.out.below HBB.out).int_at hja
            obtain ⟨bo2, oo2, xb, e2, hbo2, hxb, hcb⟩ := (HRU.out.below HBB.out).int_at hjb
            injection e2 with e2; injection e2 with e2 e2'; subst e2 e2'
            have exa := hea.symm.trans hxa
            have exb := heb.symm.trans hxb
            injection exa with exa
            injection exb with exb
            have ba := elt_bd (k := (ja : Int)) HBS.out
            have bb := elt_bd (k := (jb : Int)) HBS.out
            rw [exa] at ba
            rw [exb] at bb
            have HW := Lib.hid (show zStep (gbZ off) (gbR off) key off ⟨l, rows, ones⟩ ⟨1, (ja : Int), (jb : Int)⟩ = ⟨l ++ [gbZ off (l.length : Int) xa xb], rows ++ [gbR off (l.length : Int) xa xb], ones⟩ by unfold zStep; simp only [Int.reduceEq, if_false]; rw [exa, exb])
            have HC := Lib.hid (fun W => c_spec_gbZero (w := W) (n := (l.length : Int)) ho (by omega) ba bb)
            clear hgb hea heb hxa hxb exa exb hab i1
            have hja0 : (0 : Int) ≤ (ja : Int) := Int.natCast_nonneg _
            have hja1 : (ja : Int) < (l.length : Int) := by omega
            have hjb0 : (0 : Int) ≤ (jb : Int) := Int.natCast_nonneg _
            have hjb1 : (jb : Int) < (l.length : Int) := by omega
            generalize gbZ off (l.length : Int) xa xb = zz at *
            go_wp2_with fail
            go_region_law (first
              | (refine step_app1 (B := w.heap.size + 1) (by rfl) (by rfl) Tryz.underlying24 info_int rfl (World.ownsRow.alloc HO4.out _) (cell_new _ _ _) (by rfl) (by rfl) rfl (by unfold maxLen; omega) (by omega) (by simp; omega) ?_; intro v' w9 ho hg hfr)
              | (go_simp; go_at_call 150; refine (HC.out _).mono ?_; rintro e w4 ⟨rfl, hb4⟩; replace hb4 : Below wb.heap.size wb w4 := below_step ((Below.refl _ _).drew) hb4; have HO4 := Lib.hid (HO2.out.below hb4); have HB4 := Lib.hid (below_step HB2.out hb4); have hsz4 : w.heap.size + 1 ≤ w4.heap.size := Nat.le_trans hsz hb4.size))
            all_goals
              have hg2 := grown_alloc w4 (.cells #[.int .i64 zz] 3) hg
              have HZn := Lib.hid (OwnI.snoc ho)
              have HBn := Lib.hid (below_app HB4.out (own_mono HO4.out (Nat.le_add_right _ 1)) hg2 (Nat.le_refl _))
              have hzn : w.heap.size + 1 ≤ w9.heap.size := Nat.le_trans hsz4 hg2.size
              go_wp2
              go_roundw
              case rel => exact ⟨j + 1, by omega, by go_num, by rw [HS.out, HW.out]; exact HZn, HBn, hzn⟩
              case measure => simp [intOf]; omega
          · -- not
            have hab := hgb.2.2 rfl
            obtain ⟨ja, rfl, hja, hea⟩ := elt_at (l := l) hab.1 (by have := HLL.out; omega)
            obtain ⟨bo, oo, xa, rfl, hbo, hxa, hca⟩ := (HRU.out.below HBB.out).int_at hja
            have exa := hea.symm.trans hxa
            injection exa with exa
            have ba := elt_bd (k := (ja : Int)) HBS.out
            rw [exa] at ba
            have hxor := bits_xor ba.1 ho.1 (by omega) (by omega)
            have HW := Lib.hid (show zStep (gbZ off) (gbR off) key off ⟨l, rows, ones⟩ ⟨2, (ja : Int), gb⟩ = ⟨l ++ [xorI xa off], rows, ones⟩ by unfold zStep; simp only [Int.reduceEq, if_false, if_true]; rw [exa])
            clear hgb hea hxa exa hab i1
            have hja0 : (0 : Int) ≤ (ja : Int) := Int.natCast_nonneg _
            have hja1 : (ja : Int) < (l.length : Int) := by omega
            go_wp2_with (at_builtin; refine wp_app1 (B := w.heap.size + 1) rfl rfl Tryz.underlying24 info_int rfl HO2.out rfl rfl rfl (by unfold maxLen; omega) (by omega) hsz ?_; intro v' w9 ho hg hfr)
            have HZn := Lib.hid (OwnI.snoc ho)
            have HBn := Lib.hid (below_app HB2.out (own_mono HO2.out (Nat.le_add_right _ 1)) hg (Nat.le_refl _))
            have hzn : w.heap.size + 1 ≤ w9.heap.size := Nat.le_trans hsz hg.size
            go_roundw
            case rel => exact ⟨j + 1, by omega, by go_num, by rw [HS.out, HW.out]; exact HZn, HBn, hzn⟩
            case measure => simp [intOf]; omega
          · -- one
            have HW := Lib.hid (show zStep (gbZ off) (gbR off) key off ⟨l, rows, ones⟩ ⟨3, ga, gb⟩ = ⟨l ++ [digM [key, (l.length : Int), 13, 0]], rows, ones ++ [xorI (digM [key, (l.length : Int), 13, 0]) off]⟩ by unfold zStep; simp only [Int.reduceEq, if_false, if_true])
            have HC := Lib.hid (fun W => c_spec_lbZero (w := W) (k := key) (n := (l.length : Int)) (by omega) (by omega))
            generalize digM [key, (l.length : Int), 13, 0] = z at *
            clear hgb i1
            go_wp2_with fail
            refine (HC.out _).mono ?_
            rintro e w2 ⟨rfl, hb2⟩
            have HO3 := Lib.hid (HO2.out.below hb2)
            have HB3 := Lib.hid (below_step HB2.out hb2)
            have hsz8 := Nat.le_trans hsz hb2.size
            clear hb2 HC
            go_wp2_with (at_builtin; refine wp_app1 (B := w.heap.size + 1) rfl rfl Tryz.underlying24 info_int rfl HO3.out rfl rfl rfl (by unfold maxLen; omega) (by omega) (by omega) ?_; intro v' w9 ho hg hfr)
            have HZn := Lib.hid (OwnI.snoc ho)
            have HBn := Lib.hid (below_app HB3.out (own_mono HO3.out (Nat.le_add_right _ 1)) hg (Nat.le_refl _))
            have hzn : w.heap.size + 1 ≤ w9.heap.size := Nat.le_trans hsz8 hg.size
            go_roundw
            case rel => exact ⟨j + 1, by omega, by go_num, by rw [HS.out, HW.out]; exact HZn, HBn, hzn⟩
            case measure => simp [intOf]; omega
        · obtain rfl : j = c.gs.length := by omega
          have HE := Lib.hid (show c.gs.take c.gs.length = c.gs from List.take_of_length_le (Nat.le_refl _))
          have HO3 := Lib.hid (show OwnI wr (w.heap.size + 1) _ (zrM (gbZ off) (gbR off) key off k c.gs).zs by have := HO.out; rw [HE.out] at this; exact this)
          clear HO HE
          go_wp2
          go_ret
          rw [show c.ins.toNat = k by have := HN.out; omega]
          exact RetI.mk (HO3.out.mono (Nat.le_add_right _ 1)) HB.out
end Go.Proofs.YtejeppjmlgfiaaaGreat

/- Contracts of the tables of garbled and halved circuits, the program's. Conditions: the circuit, the key and the offset are valid. -/
namespace Go.Proofs.YtejeppjmlgfiaaaGreat
open Go.RowKit
set_option linter.unusedVariables false

theorem zr_outs {F : Int → Int → Int → Int} {R : Int → Int → Int → List Int} {key off : Int} {c : Cir} (hc : cirB c = true) (h0 : 0 ≤ c.ins) :
    ∀ k ∈ c.outs, 0 ≤ k ∧ k < ((zrM F R key off c.ins.toNat c.gs).zs.length : Int) := by
  have h := (zr_inv (F := F) (R := R) (key := key) (off := off) (n := c.ins.toNat) (cirB_kinds hc) c.gs.length (Nat.le_refl _)).1
  rw [zr_all] at h
  intro k hk
  have := allB_bd (cirB_outs hc) k hk
  unfold Cir.wires at this
  omega
theorem zr_len {F : Int → Int → Int → Int} {R : Int → Int → Int → List Int} {key off : Int} {c : Cir} (hc : cirB c = true) :
    (zrM F R key off c.ins.toNat c.gs).zs.length = c.ins.toNat + c.gs.length := by
  have h := (zr_inv (F := F) (R := R) (key := key) (off := off) (n := c.ins.toNat) (cirB_kinds hc) c.gs.length (Nat.le_refl _)).1
  rwa [zr_all] at h
/-- Tables begun: rows and colours of the call's own, in a new block. -/
theorem sta_new {t : TypeId} {wx w0 : World} {rv cv : Value} {vs : List Value} {rows : List (List Int)} {cols : List Int} (hr : OwnRs wx w0.heap.size rv vs rows) (hcl : OwnI wx w0.heap.size cv cols) (ha : ∀ y ∈ rv :: vs, Apt cv y) (hb : Below w0.heap.size w0 wx) :
    Sta t (wx.alloc (.cells #[rv, .slice none 0 0, cv] t)) w0 wx.heap.size rv (.slice none 0 0) cv vs ⟨rows, [], cols⟩ := by
  have hx := (Below.refl wx.heap.size wx).alloc (Nat.le_refl _) (.cells #[rv, .slice none 0 0, cv] t)
  refine ⟨Blk.new _ _ _, ⟨hr.below hx, OwnI.nil _ _, hcl.below hx, ?_⟩, fun u hu e => ?_, hb.size, hb.alloc hb.size _⟩
  · refine List.pairwise_cons.2 ⟨fun u _ g e => (by cases e), List.pairwise_cons.2 ⟨ha, hr.apart⟩⟩
  · rcases List.mem_cons.1 hu with rfl | hu
    · cases e
    · rcases List.mem_cons.1 hu with rfl | hu
      · have := hcl.lt _ e; omega
      · have := (hr.bd u hu _ e).2; omega
set_option maxRecDepth 100000 in
set_option maxHeartbeats 4000000 in
theorem c_tables_garbledAnd {c : Cir} {gv ov : Value} {key off : Int} {q : Nat} {w : World} (h : CirIn w gv ov c) (hc : cirB c = true) (hk : 0 ≤ key ∧ key ≤ 1000000000) (ho : 0 ≤ off ∧ off ≤ 65535) (hq : w.cell? ⟨q, 0, none⟩ = some (.int .i64 off)) :
    Calls Tryz.prog 57 #[cirV c gv ov, .int .i64 key, .int .i64 off, .func (.func 144) #[] #[.pointer (some ⟨q, 0, none⟩)]] w (RetGb w (tabM (gbZ off) (gbR off) key off c)) := by
  have hbd := cirB_bd hc
  have hgl : c.gs.length ≤ 300 := hbd.2.2.2.2.1
  have hol : c.outs.length ≤ 40 := hbd.2.2.2.2.2
  have hins : 0 ≤ c.ins ∧ c.ins ≤ 40 := by unfold Cir.ins; omega
  have hi4 : 0 ≤ c.i0 ∧ c.i0 ≤ 20 ∧ 0 ≤ c.i1 ∧ c.i1 ≤ 20 := by omega
  have HOB := Lib.hid (zr_outs (F := gbZ off) (R := gbR off) (key := key) (off := off) hc hins.1)
  have hzl := zr_len (F := gbZ off) (R := gbR off) (key := key) (off := off) hc
  have HKB := Lib.hid (cirB_kinds hc)
  have HC := Lib.hid hc
  have HBD := Lib.hid (zr_bd (m := (gbR off 0 0 0).length) (F := gbZ off) (R := gbR off) ho (by first | exact fun w x y _ _ => gbZ_bd ho w x y | exact fun w x y hx _ => hgZ_bd ho hx w y) (by first | exact fun w x y _ _ => gbR_bd ho w x y | exact fun w x y hx _ => hgR_bd ho hx w y) key c.ins.toNat)
  have H := Lib.hid h
  have hql : q < w.heap.size := World.block_lt_of_cell? _ _ hq
  have QC := Lib.hid hq
  obtain ⟨hg, hoo⟩ := h
  obtain ⟨A, cg, rfl, hlg, hmg, hrg⟩ := hg
  obtain ⟨A', co, rfl, -⟩ := hoo
  have HRG := Lib.hid hrg
  unfold maxLen at hmg
  clear hc hbd hrg hq
  obtain ⟨N, hN⟩ : ∃ N : Nat, c.ins = (N : Int) := ⟨c.ins.toNat, by omega⟩
  have hN2 : c.ins.toNat = N := by omega
  have HT := Lib.hid (show tabM (gbZ off) (gbR off) key off c = ⟨(zrM (gbZ off) (gbR off) key off N c.gs).rows, (zrM (gbZ off) (gbR off) key off N c.gs).ones, coloursM (pickM (zrM (gbZ off) (gbR off) key off N c.gs).zs c.outs)⟩ by unfold tabM; rw [hN2])
  rw [hN2] at HBD HOB hzl
  have HN := Lib.hid hN
  have HN2 := Lib.hid hN2
  obtain ⟨S, hS⟩ : ∃ S, zrM (gbZ off) (gbR off) key off N c.gs = S := ⟨_, rfl⟩
  have HSB := HBD.out c.gs
  rw [hS] at HOB hzl HT HSB
  have HSE := Lib.hid hS
  obtain ⟨zs, rows, ones⟩ := S
  simp only at HOB hzl HT HSB
  have HZB := Lib.hid HSB.1
  have HZL := Lib.hid hzl
  clear hN hN2 hS HSB hzl
  unfold cirV
  obtain ⟨w0, hw0⟩ : ∃ W, ((w.alloc (.cells #[.int .i64 c.i0, .int .i64 c.i1, .slice A c.gs.length cg, .slice A' c.outs.length co] 26)).alloc (.cells #[.slice none 0 0, .slice none 0 0, .slice none 0 0] 50)) = W := ⟨_, rfl⟩
  have HKC : Hid (Blk w0 w.heap.size 26 #[.int .i64 c.i0, .int .i64 c.i1, .slice A c.gs.length cg, .slice A' c.outs.length co]) := by rw [← hw0]; exact (Blk.new _ _ _).alloc _
  have HR : Hid (Blk w0 (w.heap.size + 1) 50 #[.slice none 0 0, .slice none 0 0, .slice none 0 0]) := by rw [← hw0]; have := Blk.new (w.alloc (.cells #[.int .i64 c.i0, .int .i64 c.i1, .slice A c.gs.length cg, .slice A' c.outs.length co] 26)) 50 #[.slice none 0 0, .slice none 0 0, .slice none 0 0]; simp only [World.size_alloc] at this; exact this
  have HB : Hid (Below w.heap.size w w0) := by rw [← hw0]; exact ((Below.refl _ _).alloc (Nat.le_refl _) _).alloc (by simp) _
  have hz0 : w.heap.size + 2 ≤ w0.heap.size := by rw [← hw0]; simp
  have x0 : w0.cell? ⟨w.heap.size, 0, none⟩ = some (.int .i64 c.i0) := HKC.out.cell 0
  have x1 : w0.cell? ⟨w.heap.size, 1, none⟩ = some (.int .i64 c.i1) := HKC.out.cell 1
  have x2 : w0.cell? ⟨w.heap.size, 2, none⟩ = some (.slice A c.gs.length cg) := HKC.out.cell 2
  have x3 : w0.cell? ⟨w.heap.size, 3, none⟩ = some (.slice A' c.outs.length co) := HKC.out.cell 3
  go_enter Tryz.func57, Tryz.ntmps57
  go_wp2_with fail
  clear hw0 x0 x1 x2 x3
  refine (c_zeros_garbledAnd (H.out.below HB.out) HC.out hk ho ((HB.out.cell (p := ⟨q, 0, none⟩) hql).trans QC.out)).mono ?_
  rintro e w1 ⟨u, rv, vs, rfl, hzp, hb1⟩
  rw [HN2.out, HSE.out] at hzp
  simp only at hzp
  have HB01 := Lib.hid hb1
  replace HB := Lib.hid (below_step HB.out hb1)
  replace HKC := Lib.hid (HKC.out.step hb1)
  have HZ := Lib.hid hzp
  have hz1 : w.heap.size + 2 ≤ w1.heap.size := Nat.le_trans hz0 hb1.size
  obtain ⟨Az, cz, rfl, hlz, hmz, -⟩ := own_form HZ.out.own
  obtain ⟨Ar, cr, rfl, -⟩ := HZ.out.rs.rowsIn.form
  unfold maxLen at hmz
  have x3 : w1.cell? ⟨w.heap.size, 3, none⟩ = some (.slice A' c.outs.length co) := HKC.out.cell 3
  have hzl2 : zs.length ≤ 340 := by have := HN.out; have := HZL.out; omega
  clear hb1 hzp
  go_wp2_with fail
  refine (c_impl_at HZ.out.own.ints (H.out.below HB.out).outs (by omega) (by omega) HOB.out).mono ?_
  rintro e w2 ⟨u2, rfl, hu2, hb2⟩
  have HB12 := Lib.hid hb2
  have HU2 := Lib.hid hu2
  obtain ⟨A2, c2, rfl, -⟩ := hu2.ints
  clear hu2 hb2 x3
  go_wp2_with fail
  refine (c_impl_colours HU2.out.ints (by rw [pickM_length]; omega) (fun x hx => by
    simp only [pickM, List.mem_map] at hx
    obtain ⟨k, -, rfl⟩ := hx
    have := elt_bd (k := k) HZB.out
    unfold elt at this; omega)).mono ?_
  rintro e w3 ⟨u3, rfl, hu3, hb3⟩
  obtain ⟨cols, hcols⟩ : ∃ cols, coloursM (pickM zs c.outs) = cols := ⟨_, rfl⟩
  rw [hcols] at hu3 HT
  clear hcols
  have HB13 := Lib.hid (below_step HB12.out hb3)
  have HU3 := Lib.hid (hu3.mono HB12.out.size)
  obtain ⟨A3, c3, rfl, -⟩ := hu3.ints
  have HB03 := Lib.hid (below_step HB01.out HB13.out)
  have HS := Lib.hid (sta_new (t := 50) (HZ.out.rs.below HB13.out) (HU3.out.mono HB01.out.size) (fun y hy => (Apt.ofLt (fun g hg => (HZ.out.rs.bd y hy g hg).2) HU3.out.ge).symm) HB03.out)
  have HB14 := Lib.hid (HB13.out.alloc HB13.out.size (.cells #[.slice Ar rows.length cr, .slice none 0 0, .slice A3 cols.length c3] 50))
  have hb1w : w1.heap.size ≤ w3.heap.size := HB13.out.size
  have x2 : (w3.alloc (.cells #[.slice Ar rows.length cr, .slice none 0 0, .slice A3 cols.length c3] 50)).cell? ⟨w.heap.size, 2, none⟩ = some (.slice A c.gs.length cg) := (HKC.out.step HB14.out).cell 2
  clear hu3 hb3 HB12 HU2
  go_wp2_with fail
  have hlo1 : w1.heap.size ≤ w3.heap.size := hb1w
  clear x2
  go_loopw [32] (fun i wr => ∃ (j : Nat) (ov : Value), j ≤ c.gs.length ∧ i = .int .i64 j ∧ Hid (Sta 50 wr w0 w3.heap.size (.slice Ar rows.length cr) ov (.slice A3 cols.length c3) vs ⟨rows, (zrM (gbZ off) (gbR off) key off N (c.gs.take j)).ones, cols⟩) ∧ Hid (Below w1.heap.size w1 wr) ∧ Hid (∀ g, ov.ownBlock = some g → w1.heap.size ≤ g)) (fun i _ => c.gs.length - (intOf i).toNat)
  case atStart => exact ⟨0, _, Nat.zero_le _, rfl, HS, HB14, Lib.hid (fun g e => by cases e)⟩
  case round =>
    obtain ⟨j, ov, hj, rfl, HS, HB1, HOV⟩ := hrel
    clear HB14
    obtain ⟨wa, rfl⟩ : ∃ W, W = wr := ⟨wr, rfl⟩
    have HBW := Lib.hid (below_step HB.out HB1.out)
    have HKW := Lib.hid (HKC.out.step HB1.out)
    by_cases hjl : j < c.gs.length
    · obtain ⟨b, o, g, rfl, hbl, hgk, c0, c1', c2'⟩ := (HRG.out.below HBW.out).gate_at hjl
      obtain ⟨i1, i2, i3⟩ := zr_inv (F := gbZ off) (R := gbR off) (key := key) (off := off) (n := N) HKB.out j (by omega)
      have HSN := Lib.hid (zr_snoc (F := gbZ off) (R := gbR off) (key := key) (off := off) (n := N) hgk)
      have hcl3 := cnt_le 3 c.gs j
      have hcb3 := cnt_bd 3 c.gs
      have honl : (zrM (gbZ off) (gbR off) key off N (c.gs.take j)).ones.length ≤ 300 := by omega
      obtain ⟨m, hm⟩ : ∃ m : Nat, (N : Int) + (j : Int) = (m : Int) := ⟨N + j, by omega⟩
      have HM := Lib.hid hm
      have hmz' : m < zs.length := by have := HZL.out; omega
      have HMADE := Lib.hid (fun x => zr_made (F := gbZ off) (R := gbR off) (key := key) (off := off) (n := N) (gs := c.gs) (k := j) (x := x))
      rw [HSE.out, i1, show N + j = m by omega] at HMADE
      simp only at HMADE
      have hlsn : (zrM (gbZ off) (gbR off) key off N (c.gs.take j)).zs.length = m := by omega
      have HLS := Lib.hid hlsn
      generalize hs : zrM (gbZ off) (gbR off) key off N (c.gs.take j) = s at *
      clear hs hgk i1 i2 i3 hcl3 hcb3 hlsn
      obtain ⟨gk, ga, gb⟩ := g
      obtain ⟨l, rws, ons⟩ := s
      simp only at c0 c1' c2' honl HS HMADE HLS
      have hN3 : (N : Int) ≤ 40 := by have := HN.out; omega
      obtain ⟨wb, hwb⟩ : ∃ W, wa.alloc (.cells #[.int .i64 gk, .int .i64 ga, .int .i64 gb] 117) = W := ⟨_, rfl⟩
      have hbb : Below wa.heap.size wa wb := by rw [← hwb]; exact (Below.refl _ _).alloc (Nat.le_refl _) _
      have HBX : Hid (Blk wb wa.heap.size 117 #[.int .i64 gk, .int .i64 ga, .int .i64 gb]) := by rw [← hwb]; exact Blk.new _ _ _
      have y0 : wb.cell? ⟨wa.heap.size, 0, none⟩ = some (.int .i64 gk) := HBX.out.cell 0
      have HBB := Lib.hid hbb
      have HS2 := Lib.hid (HS.out.step hbb)
      have HB2 := Lib.hid (below_step HB1.out hbb)
      have HKW2 := Lib.hid (HKW.out.step hbb)
      clear hbb hm
      by_cases h3 : gk = 3
      · subst h3
        have HW := Lib.hid (show zStep (gbZ off) (gbR off) key off ⟨l, rws, ons⟩ ⟨3, ga, gb⟩ = ⟨l ++ [digM [key, (l.length : Int), 13, 0]], rws, ons ++ [xorI (digM [key, (l.length : Int), 13, 0]) off]⟩ by unfold zStep; simp only [Int.reduceEq, if_false, if_true])
        have hel := HMADE.out (digM [key, (l.length : Int), 13, 0]) (by rw [HSN.out, HW.out])
        have hd := digM_bd [key, (l.length : Int), 13, 0]
        generalize digM [key, (l.length : Int), 13, 0] = z at *
        have hxor := bits_xor hd.1 ho.1 (by omega) (by omega)
        have hzat : zs[m]? = some z := by
          rw [List.getElem?_eq_getElem hmz']
          unfold elt at hel
          rw [Int.toNat_natCast] at hel
          simpa [List.getD, List.getElem?_eq_getElem hmz'] using hel
        obtain ⟨gz, cz', ez, -, hgz, hcz⟩ := own_at (HZ.out.own.below HB2.out) (by intro e; rw [e] at hmz'; simp at hmz')
        injection ez with ez1 ez2 ez3
        subst ez1
        have hcm := belowCell (hcz m z hzat)
        have xa := belowCell (HS2.out.blk.cell 1)
        have k0 := HKW2.out.cell 0
        have k1 := HKW2.out.cell 1
        have k2 := HKW2.out.cell 2
        have k3 := HKW2.out.cell 3
        have hI := (fun W (hW : Below wb.heap.size wb W) => c_C_inputs (H.out.below (below_step (below_step HBW.out HBB.out) hW)) hi4)
        rw [HN.out] at hI
        have HI := Lib.hid hI
        simp only [List.getElem?_toArray, List.getElem?_cons_zero, List.getElem?_cons_succ] at xa k0 k1 k2 k3
        have hm := HM.out
        have hm0 : (0 : Int) ≤ (m : Int) := Int.natCast_nonneg _
        have hm1 : (m : Int) < (zs.length : Int) := by omega
        have hwm : IntKind.i64.wrap (m : Int) = (m : Int) := IntWalk.i64_in _ (by omega)
        clear hel hcz hzat hI ez2 ez3
        have xa0 := xa _ (Below.refl _ _)
        go_wp2_with fail
        go_region_law (first
          | (refine step_app1 (B := w0.heap.size) (by rfl) (by rfl) Tryz.underlying24 info_int rfl (HOW.out.alloc _) (cell_new w9 _ _) (by rfl) (by rfl) rfl (by unfold maxLen; omega) (by omega) (by simp; omega) ?_; intro v' w2' ho2 hg hfr; have HON := Lib.hid (OwnI.snoc ho2); have hov2 := Lib.hid (fun g e => (hfr g e).elim (fun h1 => HOV.out g h1) (fun h1 => Nat.le_trans HSZ9.out (by simp at h1; omega))); have HSG := Lib.hid (HS2.out.one (hb9.alloc hb9.size (.cells #[.int .i64 (xorI z off)] 3)) HON.out hg hfr); have hbg := Lib.hid ((below_step HB2.out (hb9.alloc hb9.size (.cells #[.int .i64 (xorI z off)] 3))).grown hg (Nat.le_trans HB2.out.size (by have := hb9.size; simp; omega)) (fun k e => HOV.out k e)); have hk2 := (HS9.out.blk.alloc (.cells #[.int .i64 (xorI z off)] 3)).grown hg (fun e => HS9.out.far ov (by simp) e.symm); have z1 : w2'.cell? ⟨w3.heap.size, 1, none⟩ = some ov := hk2.cell 1; have zf := hk2.free 1; clear hk2; obtain ⟨Av, cv9, ev, -⟩ := HON.out.ints; simp only [List.length_append, List.length_cons, List.length_nil, Nat.zero_add] at ev; subst ev)
          | (go_simp; go_at_call 86; refine (HI.out _ ((Below.refl _ _).drew)).mono ?_; rintro e w9 ⟨rfl, hb9⟩; replace hb9 : Below wb.heap.size wb w9 := below_step ((Below.refl _ _).drew) hb9; have hsz9 := hb9.size; have HS9 := Lib.hid (HS2.out.step hb9); have x1 : w9.cell? ⟨w3.heap.size, 1, none⟩ = some ov := xa _ hb9; have x2 : (w9.alloc (.cells #[.int .i64 (xorI z off)] 3)).cell? ⟨w3.heap.size, 1, none⟩ = some ov := xa _ (hb9.alloc hb9.size _); have HOW : Hid (OwnI w9 w0.heap.size ov ons) := Lib.hid HS9.out.own.ones; have HSZ9 := Lib.hid (Nat.le_trans HB2.out.size hsz9); have hsz0 : w0.heap.size ≤ w9.heap.size := HS9.out.below.size; have hc9 : w9.cell? ⟨gz, m, none⟩ = some (.int .i64 z) := hcm _ hb9))
        all_goals
          go_wp2
          go_roundw
          case rel => exact ⟨j + 1, _, by omega, by go_num, by rw [HSN.out, HW.out]; exact HSG, Lib.hid (hbg.out.setCell (p := ⟨w3.heap.size, 1, none⟩) hlo1 _), hov2⟩
          case measure => simp [intOf]; omega
      · have HW := Lib.hid (show (zStep (gbZ off) (gbR off) key off ⟨l, rws, ons⟩ ⟨gk, ga, gb⟩).ones = ons by
          unfold zStep
          simp only [h3, if_false]
          split
          · rfl
          · split <;> rfl)
        clear hmz' HMADE
        go_wp2
        go_roundw
        case rel => exact ⟨j + 1, ov, by omega, by go_num, by rw [HSN.out, HW.out]; exact HS2, HB2, HOV⟩
        case measure => simp [intOf]; omega
    · obtain rfl : j = c.gs.length := by omega
      have HO2 : Hid (Sta 50 wa w0 w3.heap.size (.slice Ar rows.length cr) ov (.slice A3 cols.length c3) vs ⟨rows, ones, cols⟩) := by have h := HS.out; rw [List.take_of_length_le (Nat.le_refl _), HSE.out] at h; exact h
      clear HS
      obtain ⟨Ao, co', rfl, -⟩ := HO2.out.own.ones.ints
      have z0 : wa.cell? ⟨w3.heap.size, 0, none⟩ = some _ := HO2.out.blk.cell 0
      have z1 : wa.cell? ⟨w3.heap.size, 1, none⟩ = some _ := HO2.out.blk.cell 1
      have z2 : wa.cell? ⟨w3.heap.size, 2, none⟩ = some _ := HO2.out.blk.cell 2
      have hR := HR.out.below HO2.out.below HR.out.lt
      have y0 : wa.cell? ⟨w.heap.size + 1, 0, none⟩ = some (.slice none 0 0) := hR.cell 0
      have y1 : wa.cell? ⟨w.heap.size + 1, 1, none⟩ = some (.slice none 0 0) := hR.cell 1
      have y2 : wa.cell? ⟨w.heap.size + 1, 2, none⟩ = some (.slice none 0 0) := hR.cell 2
      have yf0 := hR.free 0
      have yf1 := hR.free 1
      have yf2 := hR.free 2
      have hlow := HR.out.lt
      have hRl := hR.lt
      have hBf := HBW
      clear hR
      go_wp2
      refine bodyPost_ret (v := gbV (.slice Ar rows.length cr) (.slice Ao ones.length co') (.slice A3 cols.length c3)) (by simp [results, Tryz.results57, go_sem, gbV, y0, y1, y2]) rfl ⟨_, _, _, vs, rfl, ?_, ?_⟩
      · rw [HT.out]
        exact (((HO2.out.own.setLow hlow 0 _).setLow hlow 1 _).setLow hlow 2 _).mono (by omega)
      · exact ((hBf.out.setCell (p := ⟨w.heap.size + 1, 0, none⟩) (by simp) _).setCell (p := ⟨w.heap.size + 1, 1, none⟩) (by simp) _).setCell (p := ⟨w.heap.size + 1, 2, none⟩) (by simp) _
set_option maxRecDepth 100000 in
set_option maxHeartbeats 4000000 in
theorem c_tables_halvedAnd {c : Cir} {gv ov : Value} {key off : Int} {q : Nat} {w : World} (h : CirIn w gv ov c) (hc : cirB c = true) (hk : 0 ≤ key ∧ key ≤ 1000000000) (ho : 0 ≤ off ∧ off ≤ 65535) (hq : w.cell? ⟨q, 0, none⟩ = some (.int .i64 off)) :
    Calls Tryz.prog 57 #[cirV c gv ov, .int .i64 key, .int .i64 off, .func (.func 126) #[] #[.pointer (some ⟨q, 0, none⟩)]] w (RetGb w (tabM (hgZ off) (hgR off) key off c)) := by
  have hbd := cirB_bd hc
  have hgl : c.gs.length ≤ 300 := hbd.2.2.2.2.1
  have hol : c.outs.length ≤ 40 := hbd.2.2.2.2.2
  have hins : 0 ≤ c.ins ∧ c.ins ≤ 40 := by unfold Cir.ins; omega
  have hi4 : 0 ≤ c.i0 ∧ c.i0 ≤ 20 ∧ 0 ≤ c.i1 ∧ c.i1 ≤ 20 := by omega
  have HOB := Lib.hid (zr_outs (F := hgZ off) (R := hgR off) (key := key) (off := off) hc hins.1)
  have hzl := zr_len (F := hgZ off) (R := hgR off) (key := key) (off := off) hc
  have HKB := Lib.hid (cirB_kinds hc)
  have HC := Lib.hid hc
  have HBD := Lib.hid (zr_bd (m := (hgR off 0 0 0).length) (F := hgZ off) (R := hgR off) ho (by first | exact fun w x y _ _ => gbZ_bd ho w x y | exact fun w x y hx _ => hgZ_bd ho hx w y) (by first | exact fun w x y _ _ => gbR_bd ho w x y | exact fun w x y hx _ => hgR_bd ho hx w y) key c.ins.toNat)
  have H := Lib.hid h
  have hql : q < w.heap.size := World.block_lt_of_cell? _ _ hq
  have QC := Lib.hid hq
  obtain ⟨hg, hoo⟩ := h
  obtain ⟨A, cg, rfl, hlg, hmg, hrg⟩ := hg
  obtain ⟨A', co, rfl, -⟩ := hoo
  have HRG := Lib.hid hrg
  unfold maxLen at hmg
  clear hc hbd hrg hq
  obtain ⟨N, hN⟩ : ∃ N : Nat, c.ins = (N : Int) := ⟨c.ins.toNat, by omega⟩
  have hN2 : c.ins.toNat = N := by omega
  have HT := Lib.hid (show tabM (hgZ off) (hgR off) key off c = ⟨(zrM (hgZ off) (hgR off) key off N c.gs).rows, (zrM (hgZ off) (hgR off) key off N c.gs).ones, coloursM (pickM (zrM (hgZ off) (hgR off) key off N c.gs).zs c.outs)⟩ by unfold tabM; rw [hN2])
  rw [hN2] at HBD HOB hzl
  have HN := Lib.hid hN
  have HN2 := Lib.hid hN2
  obtain ⟨S, hS⟩ : ∃ S, zrM (hgZ off) (hgR off) key off N c.gs = S := ⟨_, rfl⟩
  have HSB := HBD.out c.gs
  rw [hS] at HOB hzl HT HSB
  have HSE := Lib.hid hS
  obtain ⟨zs, rows, ones⟩ := S
  simp only at HOB hzl HT HSB
  have HZB := Lib.hid HSB.1
  have HZL := Lib.hid hzl
  clear hN hN2 hS HSB hzl
  unfold cirV
  obtain ⟨w0, hw0⟩ : ∃ W, ((w.alloc (.cells #[.int .i64 c.i0, .int .i64 c.i1, .slice A c.gs.length cg, .slice A' c.outs.length co] 26)).alloc (.cells #[.slice none 0 0, .slice none 0 0, .slice none 0 0] 50)) = W := ⟨_, rfl⟩
  have HKC : Hid (Blk w0 w.heap.size 26 #[.int .i64 c.i0, .int .i64 c.i1, .slice A c.gs.length cg, .slice A' c.outs.length co]) := by rw [← hw0]; exact (Blk.new _ _ _).alloc _
  have HR : Hid (Blk w0 (w.heap.size + 1) 50 #[.slice none 0 0, .slice none 0 0, .slice none 0 0]) := by rw [← hw0]; have := Blk.new (w.alloc (.cells #[.int .i64 c.i0, .int .i64 c.i1, .slice A c.gs.length cg, .slice A' c.outs.length co] 26)) 50 #[.slice none 0 0, .slice none 0 0, .slice none 0 0]; simp only [World.size_alloc] at this; exact this
  have HB : Hid (Below w.heap.size w w0) := by rw [← hw0]; exact ((Below.refl _ _).alloc (Nat.le_refl _) _).alloc (by simp) _
  have hz0 : w.heap.size + 2 ≤ w0.heap.size := by rw [← hw0]; simp
  have x0 : w0.cell? ⟨w.heap.size, 0, none⟩ = some (.int .i64 c.i0) := HKC.out.cell 0
  have x1 : w0.cell? ⟨w.heap.size, 1, none⟩ = some (.int .i64 c.i1) := HKC.out.cell 1
  have x2 : w0.cell? ⟨w.heap.size, 2, none⟩ = some (.slice A c.gs.length cg) := HKC.out.cell 2
  have x3 : w0.cell? ⟨w.heap.size, 3, none⟩ = some (.slice A' c.outs.length co) := HKC.out.cell 3
  go_enter Tryz.func57, Tryz.ntmps57
  go_wp2_with fail
  clear hw0 x0 x1 x2 x3
  refine (c_zeros_halvedAnd (H.out.below HB.out) HC.out hk ho ((HB.out.cell (p := ⟨q, 0, none⟩) hql).trans QC.out)).mono ?_
  rintro e w1 ⟨u, rv, vs, rfl, hzp, hb1⟩
  rw [HN2.out, HSE.out] at hzp
  simp only at hzp
  have HB01 := Lib.hid hb1
  replace HB := Lib.hid (below_step HB.out hb1)
  replace HKC := Lib.hid (HKC.out.step hb1)
  have HZ := Lib.hid hzp
  have hz1 : w.heap.size + 2 ≤ w1.heap.size := Nat.le_trans hz0 hb1.size
  obtain ⟨Az, cz, rfl, hlz, hmz, -⟩ := own_form HZ.out.own
  obtain ⟨Ar, cr, rfl, -⟩ := HZ.out.rs.rowsIn.form
  unfold maxLen at hmz
  have x3 : w1.cell? ⟨w.heap.size, 3, none⟩ = some (.slice A' c.outs.length co) := HKC.out.cell 3
  have hzl2 : zs.length ≤ 340 := by have := HN.out; have := HZL.out; omega
  clear hb1 hzp
  go_wp2_with fail
  refine (c_impl_at HZ.out.own.ints (H.out.below HB.out).outs (by omega) (by omega) HOB.out).mono ?_
  rintro e w2 ⟨u2, rfl, hu2, hb2⟩
  have HB12 := Lib.hid hb2
  have HU2 := Lib.hid hu2
  obtain ⟨A2, c2, rfl, -⟩ := hu2.ints
  clear hu2 hb2 x3
  go_wp2_with fail
  refine (c_impl_colours HU2.out.ints (by rw [pickM_length]; omega) (fun x hx => by
    simp only [pickM, List.mem_map] at hx
    obtain ⟨k, -, rfl⟩ := hx
    have := elt_bd (k := k) HZB.out
    unfold elt at this; omega)).mono ?_
  rintro e w3 ⟨u3, rfl, hu3, hb3⟩
  obtain ⟨cols, hcols⟩ : ∃ cols, coloursM (pickM zs c.outs) = cols := ⟨_, rfl⟩
  rw [hcols] at hu3 HT
  clear hcols
  have HB13 := Lib.hid (below_step HB12.out hb3)
  have HU3 := Lib.hid (hu3.mono HB12.out.size)
  obtain ⟨A3, c3, rfl, -⟩ := hu3.ints
  have HB03 := Lib.hid (below_step HB01.out HB13.out)
  have HS := Lib.hid (sta_new (t := 50) (HZ.out.rs.below HB13.out) (HU3.out.mono HB01.out.size) (fun y hy => (Apt.ofLt (fun g hg => (HZ.out.rs.bd y hy g hg).2) HU3.out.ge).symm) HB03.out)
  have HB14 := Lib.hid (HB13.out.alloc HB13.out.size (.cells #[.slice Ar rows.length cr, .slice none 0 0, .slice A3 cols.length c3] 50))
  have hb1w : w1.heap.size ≤ w3.heap.size := HB13.out.size
  have x2 : (w3.alloc (.cells #[.slice Ar rows.length cr, .slice none 0 0, .slice A3 cols.length c3] 50)).cell? ⟨w.heap.size, 2, none⟩ = some (.slice A c.gs.length cg) := (HKC.out.step HB14.out).cell 2
  clear hu3 hb3 HB12 HU2
  go_wp2_with fail
  have hlo1 : w1.heap.size ≤ w3.heap.size := hb1w
  clear x2
  go_loopw [32] (fun i wr => ∃ (j : Nat) (ov : Value), j ≤ c.gs.length ∧ i = .int .i64 j ∧ Hid (Sta 50 wr w0 w3.heap.size (.slice Ar rows.length cr) ov (.slice A3 cols.length c3) vs ⟨rows, (zrM (hgZ off) (hgR off) key off N (c.gs.take j)).ones, cols⟩) ∧ Hid (Below w1.heap.size w1 wr) ∧ Hid (∀ g, ov.ownBlock = some g → w1.heap.size ≤ g)) (fun i _ => c.gs.length - (intOf i).toNat)
  case atStart => exact ⟨0, _, Nat.zero_le _, rfl, HS, HB14, Lib.hid (fun g e => by cases e)⟩
  case round =>
    obtain ⟨j, ov, hj, rfl, HS, HB1, HOV⟩ := hrel
    clear HB14
    obtain ⟨wa, rfl⟩ : ∃ W, W = wr := ⟨wr, rfl⟩
    have HBW := Lib.hid (below_step HB.out HB1.out)
    have HKW := Lib.hid (HKC.out.step HB1.out)
    by_cases hjl : j < c.gs.length
    · obtain ⟨b, o, g, rfl, hbl, hgk, c0, c1', c2'⟩ := (HRG.out.below HBW.out).gate_at hjl
      obtain ⟨i1, i2, i3⟩ := zr_inv (F := hgZ off) (R := hgR off) (key := key) (off := off) (n := N) HKB.out j (by omega)
      have HSN := Lib.hid (zr_snoc (F := hgZ off) (R := hgR off) (key := key) (off := off) (n := N) hgk)
      have hcl3 := cnt_le 3 c.gs j
      have hcb3 := cnt_bd 3 c.gs
      have honl : (zrM (hgZ off) (hgR off) key off N (c.gs.take j)).ones.length ≤ 300 := by omega
      obtain ⟨m, hm⟩ : ∃ m : Nat, (N : Int) + (j : Int) = (m : Int) := ⟨N + j, by omega⟩
      have HM := Lib.hid hm
      have hmz' : m < zs.length := by have := HZL.out; omega
      have HMADE := Lib.hid (fun x => zr_made (F := hgZ off) (R := hgR off) (key := key) (off := off) (n := N) (gs := c.gs) (k := j) (x := x))
      rw [HSE.out, i1, show N + j = m by omega] at HMADE
      simp only at HMADE
      have hlsn : (zrM (hgZ off) (hgR off) key off N (c.gs.take j)).zs.length = m := by omega
      have HLS := Lib.hid hlsn
      generalize hs : zrM (hgZ off) (hgR off) key off N (c.gs.take j) = s at *
      clear hs hgk i1 i2 i3 hcl3 hcb3 hlsn
      obtain ⟨gk, ga, gb⟩ := g
      obtain ⟨l, rws, ons⟩ := s
      simp only at c0 c1' c2' honl HS HMADE HLS
      have hN3 : (N : Int) ≤ 40 := by have := HN.out; omega
      obtain ⟨wb, hwb⟩ : ∃ W, wa.alloc (.cells #[.int .i64 gk, .int .i64 ga, .int .i64 gb] 117) = W := ⟨_, rfl⟩
      have hbb : Below wa.heap.size wa wb := by rw [← hwb]; exact (Below.refl _ _).alloc (Nat.le_refl _) _
      have HBX : Hid (Blk wb wa.heap.size 117 #[.int .i64 gk, .int .i64 ga, .int .i64 gb]) := by rw [← hwb]; exact Blk.new _ _ _
      have y0 : wb.cell? ⟨wa.heap.size, 0, none⟩ = some (.int .i64 gk) := HBX.out.cell 0
      have HBB := Lib.hid hbb
      have HS2 := Lib.hid (HS.out.step hbb)
      have HB2 := Lib.hid (below_step HB1.out hbb)
      have HKW2 := Lib.hid (HKW.out.step hbb)
      clear hbb hm
      by_cases h3 : gk = 3
      · subst h3
        have HW := Lib.hid (show zStep (hgZ off) (hgR off) key off ⟨l, rws, ons⟩ ⟨3, ga, gb⟩ = ⟨l ++ [digM [key, (l.length : Int), 13, 0]], rws, ons ++ [xorI (digM [key, (l.length : Int), 13, 0]) off]⟩ by unfold zStep; simp only [Int.reduceEq, if_false, if_true])
        have hel := HMADE.out (digM [key, (l.length : Int), 13, 0]) (by rw [HSN.out, HW.out])
        have hd := digM_bd [key, (l.length : Int), 13, 0]
        generalize digM [key, (l.length : Int), 13, 0] = z at *
        have hxor := bits_xor hd.1 ho.1 (by omega) (by omega)
        have hzat : zs[m]? = some z := by
          rw [List.getElem?_eq_getElem hmz']
          unfold elt at hel
          rw [Int.toNat_natCast] at hel
          simpa [List.getD, List.getElem?_eq_getElem hmz'] using hel
        obtain ⟨gz, cz', ez, -, hgz, hcz⟩ := own_at (HZ.out.own.below HB2.out) (by intro e; rw [e] at hmz'; simp at hmz')
        injection ez with ez1 ez2 ez3
        subst ez1
        have hcm := belowCell (hcz m z hzat)
        have xa := belowCell (HS2.out.blk.cell 1)
        have k0 := HKW2.out.cell 0
        have k1 := HKW2.out.cell 1
        have k2 := HKW2.out.cell 2
        have k3 := HKW2.out.cell 3
        have hI := (fun W (hW : Below wb.heap.size wb W) => c_C_inputs (H.out.below (below_step (below_step HBW.out HBB.out) hW)) hi4)
        rw [HN.out] at hI
        have HI := Lib.hid hI
        simp only [List.getElem?_toArray, List.getElem?_cons_zero, List.getElem?_cons_succ] at xa k0 k1 k2 k3
        have hm := HM.out
        have hm0 : (0 : Int) ≤ (m : Int) := Int.natCast_nonneg _
        have hm1 : (m : Int) < (zs.length : Int) := by omega
        have hwm : IntKind.i64.wrap (m : Int) = (m : Int) := IntWalk.i64_in _ (by omega)
        clear hel hcz hzat hI ez2 ez3
        have xa0 := xa _ (Below.refl _ _)
        go_wp2_with fail
        go_region_law (first
          | (refine step_app1 (B := w0.heap.size) (by rfl) (by rfl) Tryz.underlying24 info_int rfl (HOW.out.alloc _) (cell_new w9 _ _) (by rfl) (by rfl) rfl (by unfold maxLen; omega) (by omega) (by simp; omega) ?_; intro v' w2' ho2 hg hfr; have HON := Lib.hid (OwnI.snoc ho2); have hov2 := Lib.hid (fun g e => (hfr g e).elim (fun h1 => HOV.out g h1) (fun h1 => Nat.le_trans HSZ9.out (by simp at h1; omega))); have HSG := Lib.hid (HS2.out.one (hb9.alloc hb9.size (.cells #[.int .i64 (xorI z off)] 3)) HON.out hg hfr); have hbg := Lib.hid ((below_step HB2.out (hb9.alloc hb9.size (.cells #[.int .i64 (xorI z off)] 3))).grown hg (Nat.le_trans HB2.out.size (by have := hb9.size; simp; omega)) (fun k e => HOV.out k e)); have hk2 := (HS9.out.blk.alloc (.cells #[.int .i64 (xorI z off)] 3)).grown hg (fun e => HS9.out.far ov (by simp) e.symm); have z1 : w2'.cell? ⟨w3.heap.size, 1, none⟩ = some ov := hk2.cell 1; have zf := hk2.free 1; clear hk2; obtain ⟨Av, cv9, ev, -⟩ := HON.out.ints; simp only [List.length_append, List.length_cons, List.length_nil, Nat.zero_add] at ev; subst ev)
          | (go_simp; go_at_call 86; refine (HI.out _ ((Below.refl _ _).drew)).mono ?_; rintro e w9 ⟨rfl, hb9⟩; replace hb9 : Below wb.heap.size wb w9 := below_step ((Below.refl _ _).drew) hb9; have hsz9 := hb9.size; have HS9 := Lib.hid (HS2.out.step hb9); have x1 : w9.cell? ⟨w3.heap.size, 1, none⟩ = some ov := xa _ hb9; have x2 : (w9.alloc (.cells #[.int .i64 (xorI z off)] 3)).cell? ⟨w3.heap.size, 1, none⟩ = some ov := xa _ (hb9.alloc hb9.size _); have HOW : Hid (OwnI w9 w0.heap.size ov ons) := Lib.hid HS9.out.own.ones; have HSZ9 := Lib.hid (Nat.le_trans HB2.out.size hsz9); have hsz0 : w0.heap.size ≤ w9.heap.size := HS9.out.below.size; have hc9 : w9.cell? ⟨gz, m, none⟩ = some (.int .i64 z) := hcm _ hb9))
        all_goals
          go_wp2
          go_roundw
          case rel => exact ⟨j + 1, _, by omega, by go_num, by rw [HSN.out, HW.out]; exact HSG, Lib.hid (hbg.out.setCell (p := ⟨w3.heap.size, 1, none⟩) hlo1 _), hov2⟩
          case measure => simp [intOf]; omega
      · have HW := Lib.hid (show (zStep (hgZ off) (hgR off) key off ⟨l, rws, ons⟩ ⟨gk, ga, gb⟩).ones = ons by
          unfold zStep
          simp only [h3, if_false]
          split
          · rfl
          · split <;> rfl)
        clear hmz' HMADE
        go_wp2
        go_roundw
        case rel => exact ⟨j + 1, ov, by omega, by go_num, by rw [HSN.out, HW.out]; exact HS2, HB2, HOV⟩
        case measure => simp [intOf]; omega
    · obtain rfl : j = c.gs.length := by omega
      have HO2 : Hid (Sta 50 wa w0 w3.heap.size (.slice Ar rows.length cr) ov (.slice A3 cols.length c3) vs ⟨rows, ones, cols⟩) := by have h := HS.out; rw [List.take_of_length_le (Nat.le_refl _), HSE.out] at h; exact h
      clear HS
      obtain ⟨Ao, co', rfl, -⟩ := HO2.out.own.ones.ints
      have z0 : wa.cell? ⟨w3.heap.size, 0, none⟩ = some _ := HO2.out.blk.cell 0
      have z1 : wa.cell? ⟨w3.heap.size, 1, none⟩ = some _ := HO2.out.blk.cell 1
      have z2 : wa.cell? ⟨w3.heap.size, 2, none⟩ = some _ := HO2.out.blk.cell 2
      have hR := HR.out.below HO2.out.below HR.out.lt
      have y0 : wa.cell? ⟨w.heap.size + 1, 0, none⟩ = some (.slice none 0 0) := hR.cell 0
      have y1 : wa.cell? ⟨w.heap.size + 1, 1, none⟩ = some (.slice none 0 0) := hR.cell 1
      have y2 : wa.cell? ⟨w.heap.size + 1, 2, none⟩ = some (.slice none 0 0) := hR.cell 2
      have yf0 := hR.free 0
      have yf1 := hR.free 1
      have yf2 := hR.free 2
      have hlow := HR.out.lt
      have hRl := hR.lt
      have hBf := HBW
      clear hR
      go_wp2
      refine bodyPost_ret (v := gbV (.slice Ar rows.length cr) (.slice Ao ones.length co') (.slice A3 cols.length c3)) (by simp [results, Tryz.results57, go_sem, gbV, y0, y1, y2]) rfl ⟨_, _, _, vs, rfl, ?_, ?_⟩
      · rw [HT.out]
        exact (((HO2.out.own.setLow hlow 0 _).setLow hlow 1 _).setLow hlow 2 _).mono (by omega)
      · exact ((hBf.out.setCell (p := ⟨w.heap.size + 1, 0, none⟩) (by simp) _).setCell (p := ⟨w.heap.size + 1, 1, none⟩) (by simp) _).setCell (p := ⟨w.heap.size + 1, 2, none⟩) (by simp) _
end Go.Proofs.YtejeppjmlgfiaaaGreat

/- Contract of the reference's zero labels and tables of a halved circuit. Conditions: the circuit, the key and the offset are valid. -/
namespace Go.Proofs.YtejeppjmlgfiaaaGreat
open Go.RowKit
set_option linter.unusedVariables false

/-- The call returns the zero labels and the tables. -/
def RetZG (w : World) (zs : List Int) (g : Gb) (e : Ending) (w' : World) : Prop := ∃ u rv ov cv vs, e = .returned (.tuple #[u, gbV rv ov cv]) ∧ OwnI w' w.heap.size u zs ∧ OwnGb w' w.heap.size rv ov cv vs g ∧ Below w.heap.size w w'
theorem Blk.step0 {w : World} {b : Nat} {t : TypeId} {cs : Array Value} (h : Blk w b t cs) (p : Addr) (v : Value) (hp : p.block ≠ b) : Blk (w.setCell p v) b t cs := by
  exact h.far (fun e => hp e.symm) v
set_option maxRecDepth 100000 in
set_option maxHeartbeats 4000000 in
theorem c_spec_hgMake {c : Cir} {gv ov : Value} {key off : Int} {w : World} (h : CirIn w gv ov c) (hc : cirB c = true) (hk : 0 ≤ key ∧ key ≤ 1000000000) (ho : 0 ≤ off ∧ off ≤ 65535) :
    Calls Tryz.prog 63 #[cirV c gv ov, .int .i64 key, .int .i64 off] w (RetZG w (zrM (hgZ off) (hgR off) key off c.ins.toNat c.gs).zs (tabM (hgZ off) (hgR off) key off c)) := by
  have hbd := cirB_bd hc
  have hgl : c.gs.length ≤ 300 := hbd.2.2.2.2.1
  have hins : 0 ≤ c.ins ∧ c.ins ≤ 40 := by unfold Cir.ins; omega
  have HGB := Lib.hid (cirB_gates hc)
  have hol : c.outs.length ≤ 40 := hbd.2.2.2.2.2
  have HOB := Lib.hid (zr_outs (F := hgZ off) (R := hgR off) (key := key) (off := off) hc hins.1)
  have HKB := Lib.hid (cirB_kinds hc)
  have HBD := Lib.hid (zr_bd (m := 2) (F := hgZ off) (R := hgR off) ho (fun w x y hx _ => hgZ_bd ho hx w y) (fun w x y hx _ => hgR_bd ho hx w y) key c.ins.toNat)
  have hi4 : 0 ≤ c.i0 ∧ c.i0 ≤ 20 ∧ 0 ≤ c.i1 ∧ c.i1 ≤ 20 := by omega
  have H := Lib.hid h
  obtain ⟨hg, hoo⟩ := h
  obtain ⟨A, cg, rfl, hlg, hmg, hrg⟩ := hg
  obtain ⟨A', co, rfl, -⟩ := hoo
  have HRG := Lib.hid hrg
  unfold maxLen at hmg
  clear hc hbd hrg
  obtain ⟨N, hN⟩ : ∃ N : Nat, c.ins = (N : Int) := ⟨c.ins.toNat, by omega⟩
  have hN2 : c.ins.toNat = N := by omega
  rw [hN2] at HBD HOB
  have HN := Lib.hid hN
  have hI := (fun W (hW : Below w.heap.size w W) => c_spec_ciInputs (H.out.below hW) hi4)
  rw [hN] at hI
  have HI := Lib.hid hI
  have hN40 : (N : Int) ≤ 40 := by omega
  clear hN hN2 hI hins
  unfold cirV at HI ⊢
  obtain ⟨w0, hw0⟩ : ∃ W, (w.alloc (.cells #[.int .i64 c.i0, .int .i64 c.i1, .slice A c.gs.length cg, .slice A' c.outs.length co] 26)).alloc (.cells #[.slice none 0 0, .slice none 0 0, .slice none 0 0] 35) = W := ⟨_, rfl⟩
  have HKC0 : Hid (Blk (w0.alloc (.cells #[.slice none 0 0, .slice none 0 0, .slice none 0 0] 35)) w.heap.size 26 #[.int .i64 c.i0, .int .i64 c.i1, .slice A c.gs.length cg, .slice A' c.outs.length co]) := by rw [← hw0]; exact ((Blk.new _ _ _).alloc _).alloc _
  have HR : Hid (Blk w0 (w.heap.size + 1) 35 #[.slice none 0 0, .slice none 0 0, .slice none 0 0]) := by rw [← hw0]; have := Blk.new (w.alloc (.cells #[.int .i64 c.i0, .int .i64 c.i1, .slice A c.gs.length cg, .slice A' c.outs.length co] 26)) 35 #[.slice none 0 0, .slice none 0 0, .slice none 0 0]; simp only [World.size_alloc] at this; exact this
  have HB00 : Hid (Below w.heap.size w w0) := by rw [← hw0]; exact ((Below.refl _ _).alloc (Nat.le_refl _) _).alloc (by simp) _
  have hz0 : w0.heap.size = w.heap.size + 2 := by rw [← hw0]; simp
  have HS0 : Hid (SZ 35 (w0.alloc (.cells #[.slice none 0 0, .slice none 0 0, .slice none 0 0] 35)) w0 w0.heap.size (.slice none 0 0) [] (.slice none 0 0) (.slice none 0 0) (.slice none 0 0) [] ⟨[], [], []⟩) := Lib.hid ⟨sta_new (OwnRs.nil w0 _) (OwnI.nil _ _) (fun y hy g e _ => (by cases e)) (Below.refl _ _), OwnI.nil _ _, (fun y hy g e _ => (by cases e)), (by intro e; cases e)⟩
  have HZ0 := Lib.hid hz0
  clear hz0
  go_enter Tryz.func63, Tryz.ntmps63
  go_wp2
  clear hw0
  go_loopw [8, 10] (fun u i wr => ∃ k : Nat, k ≤ N ∧ i = .int .i64 k ∧ Hid (SZ 35 wr w0 w0.heap.size u (zIns key k) (.slice none 0 0) (.slice none 0 0) (.slice none 0 0) [] ⟨[], [], []⟩) ∧ Hid (Blk wr w.heap.size 26 #[.int .i64 c.i0, .int .i64 c.i1, .slice A c.gs.length cg, .slice A' c.outs.length co])) (fun _ i _ => N - (intOf i).toNat)
  case atStart => exact ⟨0, Nat.zero_le _, rfl, HS0, HKC0⟩
  case round =>
    obtain ⟨k, hk2, rfl, HO, HKC⟩ := hrel
    clear HS0 HKC0
    obtain ⟨wa, rfl⟩ : ∃ W, W = wr := ⟨wr, rfl⟩
    have HB := Lib.hid (below_step HB00.out (HO.out.sta.below.mono (Nat.le_refl _)))
    have x0 : wa.cell? ⟨w.heap.size, 0, none⟩ = some (.int .i64 c.i0) := HKC.out.cell 0
    have x1 : wa.cell? ⟨w.heap.size, 1, none⟩ = some (.int .i64 c.i1) := HKC.out.cell 1
    have x2 : wa.cell? ⟨w.heap.size, 2, none⟩ = some (.slice A c.gs.length cg) := HKC.out.cell 2
    have x3 : wa.cell? ⟨w.heap.size, 3, none⟩ = some (.slice A' c.outs.length co) := HKC.out.cell 3
    go_wp2_with fail
    refine (HI.out _ HB.out).mono ?_
    rintro e w1 ⟨rfl, hb1⟩
    replace HO := Lib.hid (HO.out.step hb1)
    replace HKC := Lib.hid (HKC.out.step hb1)
    clear hb1 x0 x1 x2 x3 HB
    by_cases hlt : k < N
    · go_wp2_with fail
      refine (c_spec_lbZero (by omega) (by omega)).mono ?_
      rintro e w2 ⟨rfl, hb2⟩
      have hdb := digM_bd [key, (k : Int), 13, 0]
      have HS := Lib.hid (zIns_snoc key k)
      generalize digM [key, (k : Int), 13, 0] = z at *
      have HO2 := Lib.hid (HO.out.step hb2)
      have HKC2 := Lib.hid (HKC.out.step hb2)
      have hz2 : w0.heap.size ≤ w2.heap.size := HO2.out.sta.below.size
      have hlen : (zIns key k).length ≤ 40 := by rw [zIns_length]; omega
      clear hb2 HO HKC
      go_wp2_with (at_builtin; refine wp_app1 (B := w0.heap.size) rfl rfl Tryz.underlying24 info_int rfl HO2.out.own rfl rfl rfl (by unfold maxLen; omega) (by omega) hz2 ?_; intro v' w9 ho hg hfr)
      have HKn := Lib.hid (HKC2.out.grown hg (fun e => by have h1 := HO2.out.own.ge _ e.symm; have h2 := HZ0.out; omega))
      go_roundw
      case rel => exact ⟨k + 1, by omega, by go_num, by rw [HS.out]; exact Lib.hid (HO2.out.appU (OwnI.snoc ho) hg hfr), HKn⟩
      case measure => simp [intOf]; omega
    · obtain rfl : k = N := by omega
      have x2 : w1.cell? ⟨w.heap.size, 2, none⟩ = some (.slice A c.gs.length cg) := HKC.out.cell 2
      have HO1 := HO
      have HKC1 := HKC
      clear HO HKC
      go_wp2
      clear x2
      go_loopw [8, 35] (fun u i wr => ∃ (j : Nat) (rv ov : Value) (vs : List Value), j ≤ c.gs.length ∧ i = .int .i64 j ∧ Hid (SZ 35 wr w0 w0.heap.size u (zrM (hgZ off) (hgR off) key off k (c.gs.take j)).zs rv ov (.slice none 0 0) vs ⟨(zrM (hgZ off) (hgR off) key off k (c.gs.take j)).rows, (zrM (hgZ off) (hgR off) key off k (c.gs.take j)).ones, []⟩) ∧ Hid (Blk wr w.heap.size 26 #[.int .i64 c.i0, .int .i64 c.i1, .slice A c.gs.length cg, .slice A' c.outs.length co])) (fun _ i _ => c.gs.length - (intOf i).toNat)
      case atStart => exact ⟨0, _, _, _, Nat.zero_le _, rfl, HO1, HKC1⟩
      case round =>
        obtain ⟨j, rv, ov, vs, hj, rfl, HO, HKC⟩ := hrel
        clear HO1 HKC1
        obtain ⟨wa, rfl⟩ : ∃ W, W = wr := ⟨wr, rfl⟩
        have HB := Lib.hid (below_step HB00.out (HO.out.sta.below.mono (Nat.le_refl _)))
        by_cases hjl : j < c.gs.length
        · obtain ⟨b, o, g, rfl, hbl, hgk, c0, c1', c2'⟩ := (HRG.out.below HB.out).gate_at hjl
          have hgb := gate_ab (gatesB_at _ _ j g HGB.out hgk)
          obtain ⟨i1, i2, i3⟩ := zr_inv (F := hgZ off) (R := hgR off) (key := key) (off := off) (n := k) HKB.out j (by omega)
          have HS := Lib.hid (zr_snoc (F := hgZ off) (R := hgR off) (key := key) (off := off) (n := k) hgk)
          obtain ⟨hbs, -, -⟩ := HBD.out (c.gs.take j)
          have hcl1 := cnt_le 1 c.gs j
          have hcb1 := cnt_bd 1 c.gs
          have hcl3 := cnt_le 3 c.gs j
          have hcb3 := cnt_bd 3 c.gs
          generalize hs : zrM (hgZ off) (hgR off) key off k (c.gs.take j) = s at *
          clear hs hgk
          obtain ⟨gk, ga, gb⟩ := g
          obtain ⟨l, rows, ones⟩ := s
          simp only at c0 c1' c2' hgb i1 i2 i3 hbs HO
          obtain ⟨Au, cu, rfl, hlu, hmu, hru⟩ := own_form HO.out.own
          unfold maxLen at hmu
          have hll : (l.length : Int) = k + j := by omega
          have hl340 : l.length ≤ 340 := by omega
          have hrl : rows.length ≤ 300 := by omega
          have hol3 : ones.length ≤ 300 := by omega
          have HLL := Lib.hid hll
          have HBS := Lib.hid hbs
          have HRU := Lib.hid hru
          have HNN := HN.out
          rw [HNN] at hgb
          obtain ⟨wg, hwg⟩ : ∃ W, wa.alloc (.cells #[.int .i64 gk, .int .i64 ga, .int .i64 gb] 117) = W := ⟨_, rfl⟩
          have hbg : Below wa.heap.size wa wg := by rw [← hwg]; exact (Below.refl _ _).alloc (Nat.le_refl _) _
          have HBX : Hid (Blk wg wa.heap.size 117 #[.int .i64 gk, .int .i64 ga, .int .i64 gb]) := by rw [← hwg]; exact Blk.new _ _ _
          have HC3 := Lib.hid (fun W => c_spec_lbZero (w := W) (k := key) (n := (l.length : Int)) (by omega) (by omega))
          have hzd := digM_bd [key, (l.length : Int), 13, 0]
          have HD3 := Lib.hid (show zStep (hgZ off) (hgR off) key off ⟨l, rows, ones⟩ ⟨3, ga, gb⟩ = ⟨l ++ [digM [key, (l.length : Int), 13, 0]], rows, ones ++ [xorI (digM [key, (l.length : Int), 13, 0]) off]⟩ by unfold zStep; simp only [Int.reduceEq, if_false, if_true])
          generalize digM [key, (l.length : Int), 13, 0] = z at *
          clear hll hbs hru hlu hmu HNN hcl1 hcb1 hcl3 hcb3 i2 i3 i1 HB hlt
          go_wp2_with fail
          refine (HC3.out _).mono ?_
          rintro e wb ⟨rfl, hbz⟩
          have HBB := Lib.hid (below_step hbg hbz)
          replace HBX := Lib.hid (HBX.out.step hbz)
          have y0 : wb.cell? ⟨wa.heap.size, 0, none⟩ = some (.int .i64 gk) := HBX.out.cell 0
          have y1 : wb.cell? ⟨wa.heap.size, 1, none⟩ = some (.int .i64 ga) := HBX.out.cell 1
          have y2 : wb.cell? ⟨wa.heap.size, 2, none⟩ = some (.int .i64 gb) := HBX.out.cell 2
          have HO2 := Lib.hid (HO.out.step HBB.out)
          have HKC2 := Lib.hid (HKC.out.step HBB.out)
          have hsz : w0.heap.size ≤ wb.heap.size := HO2.out.sta.below.size
          clear hbg hbz HO HKC hwg HC3
          have hkk : gk = 0 ∨ gk = 1 ∨ gk = 2 ∨ gk = 3 := by omega
          rcases hkk with rfl | rfl | rfl | rfl
          · -- exclusive-or
            have hab := hgb.2.1 (Or.inl rfl)
            obtain ⟨ja, rfl, hja, hea⟩ := elt_at (l := l) hab.1 (by have := HLL.out; omega)
            obtain ⟨jb, rfl, hjb, heb⟩ := elt_at (l := l) hab.2.2.1 (by have := HLL.out; omega)
            obtain ⟨bo, oo, xa, rfl, hbo, hxa, hca⟩ := (HRU.out.below HBB.out).int_at hja
            obtain ⟨bo2, oo2, xb, e2, hbo2, hxb, hcb⟩ := (HRU.out.below HBB.out).int_at hjb
            injection e2 with e2; injection e2 with e2 e2'; subst e2 e2'
            have exa := hea.symm.trans hxa
            have exb := heb.symm.trans hxb
            injection exa with exa
            injection exb with exb
            have ba := elt_bd (k := (ja : Int)) HBS.out
            have bb := elt_bd (k := (jb : Int)) HBS.out
            rw [exa] at ba
            rw [exb] at bb
            have hxor := bits_xor ba.1 bb.1 (by omega) (by omega)
            have HW := Lib.hid (show zStep (hgZ off) (hgR off) key off ⟨l, rows, ones⟩ ⟨0, (ja : Int), (jb : Int)⟩ = ⟨l ++ [xorI xa xb], rows, ones⟩ by unfold zStep; simp only [if_true]; rw [exa, exb])
            clear hgb hea heb hxa hxb exa exb hab HD3
            have hja0 : (0 : Int) ≤ (ja : Int) := Int.natCast_nonneg _
            have hja1 : (ja : Int) < (l.length : Int) := by omega
            have hjb0 : (0 : Int) ≤ (jb : Int) := Int.natCast_nonneg _
            have hjb1 : (jb : Int) < (l.length : Int) := by omega
            have HO3 := Lib.hid (HO2.out.step (Below.refl _ _).drew)
            have HKC3 := Lib.hid (HKC2.out.step (Below.refl _ _).drew)
            go_wp2_with fail
            go_region_held3 (fun w' => w'.cell? ⟨wa.heap.size, 1, none⟩ = some (.int .i64 (ja : Int)) ∧ w'.cell? ⟨wa.heap.size, 2, none⟩ = some (.int .i64 (jb : Int)) ∧ w'.cell? ⟨bo, oo + ja, none⟩ = some (.int .i64 xa) ∧ w'.cell? ⟨bo, oo + jb, none⟩ = some (.int .i64 xb)) (exact ⟨y1, y2, hca, hcb⟩) (fail)
            go_wp2_with (at_builtin; (refine wp_app1 (B := w0.heap.size) rfl rfl Tryz.underlying24 info_int rfl HO3.out.own rfl rfl rfl (by unfold maxLen; omega) (by omega) hsz ?_; intro v9 w9 ho hg hfr))
            have HKn := Lib.hid (HKC3.out.grown hg (fun e => by have h1 := HO3.out.own.ge _ e.symm; have h2 := HZ0.out; omega))
            go_roundw
            case rel => exact ⟨j + 1, rv, ov, vs, by omega, by go_num, by rw [HS.out, HW.out]; exact Lib.hid (HO3.out.appU (OwnI.snoc ho) hg hfr), HKn⟩
            case measure => simp [intOf]; omega
          · -- and
            have hab := hgb.2.1 (Or.inr rfl)
            obtain ⟨ja, rfl, hja, hea⟩ := elt_at (l := l) hab.1 (by have := HLL.out; omega)
            obtain ⟨jb, rfl, hjb, heb⟩ := elt_at (l := l) hab.2.2.1 (by have := HLL.out; omega)
            obtain ⟨bo, oo, xa, rfl, hbo, hxa, hca⟩ := (HRU.out.below HBB.out).int_at hja
            obtain ⟨bo2, oo2, xb, e2, hbo2, hxb, hcb⟩ := (HRU.out.below HBB.out).int_at hjb
            injection e2 with e2; injection e2 with e2 e2'; subst e2 e2'
            have exa := hea.symm.trans hxa
            have exb := heb.symm.trans hxb
            injection exa with exa
            injection exb with exb
            have ba := elt_bd (k := (ja : Int)) HBS.out
            have bb := elt_bd (k := (jb : Int)) HBS.out
            rw [exa] at ba
            rw [exb] at bb
            have HW := Lib.hid (show zStep (hgZ off) (hgR off) key off ⟨l, rows, ones⟩ ⟨1, (ja : Int), (jb : Int)⟩ = ⟨l ++ [hgZ off (l.length : Int) xa xb], rows ++ [hgR off (l.length : Int) xa xb], ones⟩ by unfold zStep; simp only [Int.reduceEq, if_false]; rw [exa, exb])
            clear hgb hea heb hxa hxb exa exb hab HD3
            have hja0 : (0 : Int) ≤ (ja : Int) := Int.natCast_nonneg _
            have hja1 : (ja : Int) < (l.length : Int) := by omega
            have hjb0 : (0 : Int) ≤ (jb : Int) := Int.natCast_nonneg _
            have hjb1 : (jb : Int) < (l.length : Int) := by omega
            have HO3 := Lib.hid (HO2.out.step (Below.refl _ _).drew)
            have HKC3 := Lib.hid (HKC2.out.step (Below.refl _ _).drew)
            have x1 : wb.cell? ⟨w0.heap.size, 0, none⟩ = some rv := HO2.out.sta.blk.cell 0
            have hxo := bits_xor ba.1 ho.1 (by omega) (by omega)
            have hyo := bits_xor bb.1 ho.1 (by omega) (by omega)
            have bxo := xorI_bd ba.1 ho.1 ba.2 ho.2
            have byo := xorI_bd bb.1 ho.1 bb.2 ho.2
            have HA := Lib.hid (show hgA off (l.length : Int) xa xb = xorI (xorI (digM [(l.length : Int), 15, xa, 0]) (digM [(l.length : Int), 15, xorI xa off, 0])) (off * (xb % 2)) from rfl)
            have HBB2 := Lib.hid (show hgB off (l.length : Int) xa xb = xorI (xorI (digM [(l.length : Int), 15, xb, 1]) (digM [(l.length : Int), 15, xorI xb off, 1])) xa from rfl)
            have HZZ := Lib.hid (show hgZ off (l.length : Int) xa xb = xorI (xorI (xorI (digM [(l.length : Int), 15, xa, 0]) (hgA off (l.length : Int) xa xb * (xa % 2))) (digM [(l.length : Int), 15, xb, 1])) (xorI (hgB off (l.length : Int) xa xb) xa * (xb % 2)) from rfl)
            have HRR := Lib.hid (show hgR off (l.length : Int) xa xb = [hgA off (l.length : Int) xa xb, hgB off (l.length : Int) xa xb] from rfl)
            have hA := hgA_bd ho (l.length : Int) xa xb
            have hB := hgB_bd ba off (l.length : Int) xb
            have b0 := digM_bd [(l.length : Int), 15, xa, 0]
            have b1 := digM_bd [(l.length : Int), 15, xorI xa off, 0]
            have b2 := digM_bd [(l.length : Int), 15, xb, 1]
            have b3 := digM_bd [(l.length : Int), 15, xorI xb off, 1]
            have HX0 := Lib.hid (fun W => c_spec_hgCipher (w := W) (n := (l.length : Int)) (l := xa) (s := 0) (by omega) (by omega) (by omega))
            have HX1 := Lib.hid (fun W => c_spec_hgCipher (w := W) (n := (l.length : Int)) (l := xorI xa off) (s := 0) (by omega) (by omega) (by omega))
            have HY0 := Lib.hid (fun W => c_spec_hgCipher (w := W) (n := (l.length : Int)) (l := xb) (s := 1) (by omega) (by omega) (by omega))
            have HY1 := Lib.hid (fun W => c_spec_hgCipher (w := W) (n := (l.length : Int)) (l := xorI xb off) (s := 1) (by omega) (by omega) (by omega))
            rw [HRR.out] at HW
            generalize digM [(l.length : Int), 15, xa, 0] = d0 at *
            generalize digM [(l.length : Int), 15, xorI xa off, 0] = d1 at *
            generalize digM [(l.length : Int), 15, xb, 1] = d2 at *
            generalize digM [(l.length : Int), 15, xorI xb off, 1] = d3 at *
            generalize xorI xa off = xo at *
            generalize xorI xb off = yo at *
            generalize hgA off (l.length : Int) xa xb = vA at *
            generalize hgB off (l.length : Int) xa xb = vB at *
            generalize hgZ off (l.length : Int) xa xb = vZ at *
            have ta := tmod2 ba.1
            have tb := tmod2 bb.1
            have hi2 := bit2 xa
            have hk3 := bit2 xb
            generalize xa % 2 = pi at *
            generalize xb % 2 = pk at *
            have mk := off_bit ho hk3
            have mi := off_bit hA hi2
            have bBx := xorI_bd hB.1 ba.1 hB.2 ba.2
            have mB := off_bit bBx hk3
            have z1 := bits_xor b0.1 b1.1 (by omega) (by omega)
            have e1 := xorI_bd b0.1 b1.1 b0.2 b1.2
            have z2 := bits_xor e1.1 mk.1 (by omega) (by omega)
            rw [← HA.out] at z2
            have z3 := bits_xor b2.1 b3.1 (by omega) (by omega)
            have e3 := xorI_bd b2.1 b3.1 b2.2 b3.2
            have z4 := bits_xor e3.1 ba.1 (by omega) (by omega)
            rw [← HBB2.out] at z4
            have z5 := bits_xor b0.1 mi.1 (by omega) (by omega)
            have e5 := xorI_bd b0.1 mi.1 b0.2 mi.2
            have z6 := bits_xor e5.1 b2.1 (by omega) (by omega)
            have e6 := xorI_bd e5.1 b2.1 e5.2 b2.2
            have z7 := bits_xor hB.1 ba.1 (by omega) (by omega)
            have z8 := bits_xor e6.1 mB.1 (by omega) (by omega)
            rw [← HZZ.out] at z8
            have HF1 := Lib.hid (fun W => c_spec_hgIf (w := W) (b := off) hk3)
            have HF2 := Lib.hid (fun W => c_spec_hgIf (w := W) (b := vA) hi2)
            have HF3 := Lib.hid (fun W => c_spec_hgIf (w := W) (b := xorI vB xa) hk3)
            clear HA HBB2 HZZ HRR hi2 hk3 HO2 HKC2
            generalize xorI d0 d1 = q1 at *
            generalize xorI d2 d3 = q2 at *
            generalize xorI (xorI d0 (vA * pi)) d2 = q4 at *
            generalize xorI d0 (vA * pi) = q3 at *
            generalize xorI vB xa = q5 at *
            generalize off * pk = ok at *
            generalize vA * pi = ai at *
            generalize q5 * pk = qk at *
            go_wp2_with fail
            go_region_held3 (fun w' => w'.cell? ⟨wa.heap.size, 1, none⟩ = some (.int .i64 (ja : Int)) ∧ w'.cell? ⟨wa.heap.size, 2, none⟩ = some (.int .i64 (jb : Int)) ∧ w'.cell? ⟨bo, oo + ja, none⟩ = some (.int .i64 xa) ∧ w'.cell? ⟨bo, oo + jb, none⟩ = some (.int .i64 xb)) (exact ⟨y1, y2, hca, hcb⟩) (fail)
            go_wp2_with fail
            refine (HX0.out _).mono ?_
            rintro e wc ⟨rfl, hb⟩
            have HO4 := Lib.hid (HO3.out.step hb)
            have HKC4 := Lib.hid (HKC3.out.step hb)
            clear hb
            go_wp2_with fail
            refine (HX1.out _).mono ?_
            rintro e wd ⟨rfl, hb⟩
            have HO5 := Lib.hid (HO4.out.step hb)
            have HKC5 := Lib.hid (HKC4.out.step hb)
            clear hb
            go_wp2_with fail
            refine (HF1.out _).mono ?_
            rintro e w' ⟨rfl, rfl⟩
            go_wp2_with fail
            refine (HY0.out _).mono ?_
            rintro e we ⟨rfl, hb⟩
            have HO6 := Lib.hid (HO5.out.step hb)
            have HKC6 := Lib.hid (HKC5.out.step hb)
            clear hb
            go_wp2_with fail
            refine (HY1.out _).mono ?_
            rintro e wf ⟨rfl, hb⟩
            have HO7 := Lib.hid (HO6.out.step hb)
            have HKC7 := Lib.hid (HKC6.out.step hb)
            clear hb HO3 HO4 HO5 HO6 HKC3 HKC4 HKC5 HKC6 y0 y1 y2 hca hcb x1
            have hszf : w0.heap.size ≤ wf.heap.size := HO7.out.sta.below.size
            have x1 : wf.cell? ⟨w0.heap.size, 0, none⟩ = some rv := HO7.out.sta.blk.cell 0
            have HLIT := Lib.hid (OwnI.lit (w := wf) (B := wf.heap.size) [vA, vB] #[.int .i64 vA, .int .i64 vB] rfl (Nat.le_refl _) (by simp))
            have HOW : Hid ((wf.alloc (.cells #[.int .i64 vA, .int .i64 vB] 3)).ownsRow w0.heap.size 24 1 rv rows.length vs) := Lib.hid (World.ownsRow.alloc HO7.out.sta.own.rows.outer _)
            have HLB := Lib.hid ((Below.refl wf.heap.size wf).alloc (Nat.le_refl _) (.cells #[.int .i64 vA, .int .i64 vB] 3))
            have hsza : w0.heap.size ≤ (wf.alloc (.cells #[.int .i64 vA, .int .i64 vB] 3)).heap.size := Nat.le_trans hszf HLB.out.size
            obtain ⟨wl, hwl⟩ : ∃ W, wf.alloc (.cells #[.int .i64 vA, .int .i64 vB] 3) = W := ⟨_, rfl⟩
            rw [hwl] at HLIT HOW HLB hsza
            go_wp2_with (at_builtin; refine wp_app1 (B := w0.heap.size) rfl rfl Tryz.underlying33 info_ints rfl HOW.out rfl rfl rfl (by unfold maxLen; omega) (by omega) hsza ?_; intro v8 w8 ho8 hg8 hfr8; have HSG := Lib.hid (HO7.out.row HLB.out HLIT.out ho8 hg8 hfr8); have HKC8 := Lib.hid (((HKC7.out.step HLB.out).grown hg8 (fun e => by have h1 := (HO7.out.sta.own.bd rv (by simp) _ e.symm).1; have h2 := HZ0.out; omega)).step0 ⟨w0.heap.size, 0, none⟩ v8 (by have h2 := HZ0.out; simp; omega)); have hk2 := (HO7.out.sta.blk.step HLB.out).grown hg8 (fun e => HO7.out.sta.far rv (by simp) e.symm); have z9 : w8.cell? ⟨w0.heap.size, 0, none⟩ = some rv := hk2.cell 0; have zf := hk2.free 0; have hsz8 : w0.heap.size ≤ (w8.setCell ⟨w0.heap.size, 0, none⟩ v8).heap.size := HSG.out.sta.below.size; clear hk2; obtain ⟨Av, cv9, rfl, -⟩ := own_sl ho8; clear ho8 hg8 hfr8)
            refine (HX0.out _).mono ?_
            rintro e wg2 ⟨rfl, hb⟩
            have HO8 := Lib.hid (HSG.out.step hb)
            have HKC9 := Lib.hid (HKC8.out.step hb)
            clear hb z9 zf hwl
            go_wp2_with fail
            refine (HF2.out _).mono ?_
            rintro e w' ⟨rfl, rfl⟩
            go_wp2_with fail
            refine (HY0.out _).mono ?_
            rintro e wh ⟨rfl, hb⟩
            have HO9 := Lib.hid (HO8.out.step hb)
            have HKC10 := Lib.hid (HKC9.out.step hb)
            have hszh : w0.heap.size ≤ wh.heap.size := HO9.out.sta.below.size
            clear hb HO8 HKC9 HKC8 HSG
            go_wp2_with fail
            refine (HF3.out _).mono ?_
            rintro e w' ⟨rfl, rfl⟩
            go_wp2_with (at_builtin; (refine wp_app1 (B := w0.heap.size) rfl rfl Tryz.underlying24 info_int rfl HO9.out.own rfl rfl rfl (by unfold maxLen; omega) (by omega) hszh ?_; intro v9 w9 ho hg hfr))
            have HKn := Lib.hid (HKC10.out.grown hg (fun e => by have h1 := HO9.out.own.ge _ e.symm; have h2 := HZ0.out; omega))
            go_roundw
            case rel => exact ⟨j + 1, _, ov, _, by omega, by go_num, by rw [HS.out, HW.out]; exact Lib.hid (HO9.out.appU (OwnI.snoc ho) hg hfr), HKn⟩
            case measure => simp [intOf]; omega
          · -- not
            have hab := hgb.2.2 rfl
            obtain ⟨ja, rfl, hja, hea⟩ := elt_at (l := l) hab.1 (by have := HLL.out; omega)
            obtain ⟨bo, oo, xa, rfl, hbo, hxa, hca⟩ := (HRU.out.below HBB.out).int_at hja
            have exa := hea.symm.trans hxa
            injection exa with exa
            have ba := elt_bd (k := (ja : Int)) HBS.out
            rw [exa] at ba
            have hxor := bits_xor ba.1 ho.1 (by omega) (by omega)
            have HW := Lib.hid (show zStep (hgZ off) (hgR off) key off ⟨l, rows, ones⟩ ⟨2, (ja : Int), gb⟩ = ⟨l ++ [xorI xa off], rows, ones⟩ by unfold zStep; simp only [Int.reduceEq, if_false, if_true]; rw [exa])
            clear hgb hea hxa exa hab HD3
            have hja0 : (0 : Int) ≤ (ja : Int) := Int.natCast_nonneg _
            have hja1 : (ja : Int) < (l.length : Int) := by omega
            go_wp2_with (at_builtin; (refine wp_app1 (B := w0.heap.size) rfl rfl Tryz.underlying24 info_int rfl HO2.out.own rfl rfl rfl (by unfold maxLen; omega) (by omega) hsz ?_; intro v9 w9 ho hg hfr))
            have HKn := Lib.hid (HKC2.out.grown hg (fun e => by have h1 := HO2.out.own.ge _ e.symm; have h2 := HZ0.out; omega))
            go_roundw
            case rel => exact ⟨j + 1, rv, ov, vs, by omega, by go_num, by rw [HS.out, HW.out]; exact Lib.hid (HO2.out.appU (OwnI.snoc ho) hg hfr), HKn⟩
            case measure => simp [intOf]; omega
          · -- one
            have HW := HD3
            have hxor := bits_xor hzd.1 ho.1 (by omega) (by omega)
            have x1 : wb.cell? ⟨w0.heap.size, 1, none⟩ = some ov := HO2.out.sta.blk.cell 1
            clear hgb HD3
            have HOW : Hid (OwnI wb w0.heap.size ov ones) := Lib.hid HO2.out.sta.own.ones
            go_wp2_with (at_builtin; first
              | (refine wp_app1 (B := w0.heap.size) rfl rfl Tryz.underlying24 info_int rfl HOW.out rfl rfl rfl (by unfold maxLen; omega) (by omega) hsz ?_; intro v8 w8 ho8 hg8 hfr8; have HON := Lib.hid (OwnI.snoc ho8); have HSG := Lib.hid (HO2.out.one (Below.refl _ _) HON.out hg8 hfr8); have HKC8 := Lib.hid ((HKC2.out.grown hg8 (fun e => by have h1 := HOW.out.ge _ e.symm; have h2 := HZ0.out; omega)).step0 ⟨w0.heap.size, 1, none⟩ v8 (by have h2 := HZ0.out; simp; omega)); have hk2 := HO2.out.sta.blk.grown hg8 (fun e => HO2.out.sta.far ov (by simp) e.symm); have z1 : w8.cell? ⟨w0.heap.size, 1, none⟩ = some ov := hk2.cell 1; have zf := hk2.free 1; have hsz8 : w0.heap.size ≤ (w8.setCell ⟨w0.heap.size, 1, none⟩ v8).heap.size := HSG.out.sta.below.size; clear hk2 ho8 hg8 hfr8; obtain ⟨Av, cv9, ev, -⟩ := HON.out.ints; simp only [List.length_append, List.length_cons, List.length_nil, Nat.zero_add] at ev; subst ev; obtain ⟨w7, hw7⟩ : ∃ W, w8.setCell ⟨w0.heap.size, 1, none⟩ (.slice Av (ones.length + 1) cv9) = W := ⟨_, rfl⟩; rw [hw7] at HSG HKC8 hsz8)
              | (refine wp_app1 (B := w0.heap.size) rfl rfl Tryz.underlying24 info_int rfl HSG.out.own rfl rfl rfl (by unfold maxLen; omega) (by omega) hsz8 ?_; intro v9 w9 ho hg hfr))
            have HKn := Lib.hid (HKC8.out.grown hg (fun e => by have h1 := HSG.out.own.ge _ e.symm; have h2 := HZ0.out; omega))
            go_roundw
            case rel => exact ⟨j + 1, rv, _, vs, by omega, by go_num, by rw [HS.out, HW.out]; exact Lib.hid (HSG.out.appU (OwnI.snoc ho) hg hfr), HKn⟩
            case measure => simp [intOf]; omega
        · obtain rfl : j = c.gs.length := by omega
          have HO2 := HO.out
          rw [List.take_of_length_le (Nat.le_refl _)] at HO2
          replace HO2 := Lib.hid HO2
          have HTM := Lib.hid (show tabM (hgZ off) (hgR off) key off c = ⟨(zrM (hgZ off) (hgR off) key off k c.gs).rows, (zrM (hgZ off) (hgR off) key off k c.gs).ones, coloursM (pickM (zrM (hgZ off) (hgR off) key off k c.gs).zs c.outs)⟩ by unfold tabM; rw [show c.ins.toNat = k by have := HN.out; omega])
          have hzl := (zr_inv (F := hgZ off) (R := hgR off) (key := key) (off := off) (n := k) HKB.out c.gs.length (Nat.le_refl _)).1
          rw [zr_all] at hzl
          have HZB := Lib.hid (HBD.out c.gs).1
          have HOB2 := HOB
          have HFIN := Lib.hid (show c.ins.toNat = k by have := HN.out; omega)
          obtain ⟨S, hS⟩ : ∃ S, zrM (hgZ off) (hgR off) key off k c.gs = S := ⟨_, rfl⟩
          rw [hS] at HO2 HTM hzl HZB HOB2
          have HSE := Lib.hid hS
          clear hS
          obtain ⟨zs, rows, ones⟩ := S
          simp only at HO2 HTM hzl HZB HOB2
          have hzl2 : zs.length ≤ 340 := by omega
          obtain ⟨Au, cu, rfl, hlu, hmu, -⟩ := own_form HO2.out.own
          unfold maxLen at hmu
          obtain ⟨Ar, cr, rfl, -⟩ := HO2.out.sta.own.rows.rowsIn.form
          obtain ⟨Ao, co', rfl, -⟩ := HO2.out.sta.own.ones.ints
          have x3 : wa.cell? ⟨w.heap.size, 3, none⟩ = some (.slice A' c.outs.length co) := HKC.out.cell 3
          clear HO hzl
          go_wp2_with fail
          refine (c_spec_ciPick HO2.out.own.ints (H.out.below HB.out).outs (by omega) (by omega) HOB2.out).mono ?_
          rintro e w2 ⟨u2, rfl, hu2, hb2⟩
          have HB12 := Lib.hid hb2
          have HU2 := Lib.hid hu2
          obtain ⟨A2, c2, rfl, -⟩ := hu2.ints
          clear hu2 hb2 x3
          go_wp2_with fail
          refine (c_spec_lbColours HU2.out.ints (by rw [pickM_length]; omega) (fun x hx => by
            simp only [pickM, List.mem_map] at hx
            obtain ⟨k, -, rfl⟩ := hx
            have := elt_bd (k := k) HZB.out
            unfold elt at this; omega)).mono ?_
          rintro e w3 ⟨u3, rfl, hu3, hb3⟩
          obtain ⟨cols, hcols⟩ : ∃ cols, coloursM (pickM zs c.outs) = cols := ⟨_, rfl⟩
          rw [hcols] at hu3 HTM
          clear hcols
          have HB13 := Lib.hid (below_step HB12.out hb3)
          have HU3 := Lib.hid (hu3.mono HB12.out.size)
          obtain ⟨A3, c3, rfl, -⟩ := hu3.ints
          have HST := Lib.hid (HO2.out.sta.colours HB13.out HU3.out)
          have hk0 := (HO2.out.step HB13.out).sta.blk
          have z2 : w3.cell? ⟨w0.heap.size, 2, none⟩ = some (.slice none 0 0) := hk0.cell 2
          have zf2 := hk0.free 2
          have HZS := Lib.hid (OwnI.far (p := ⟨w0.heap.size, 2, none⟩) (HO2.out.own.below HB13.out) (fun a e e' => HO2.out.far (by rw [e, e'])) (.slice A3 cols.length c3))
          obtain ⟨w4, hw4⟩ : ∃ W, w3.setCell ⟨w0.heap.size, 2, none⟩ (.slice A3 cols.length c3) = W := ⟨_, rfl⟩
          rw [hw4] at HST HZS
          have s0 : w4.cell? ⟨w0.heap.size, 0, none⟩ = some _ := HST.out.blk.cell 0
          have s1 : w4.cell? ⟨w0.heap.size, 1, none⟩ = some _ := HST.out.blk.cell 1
          have s2 : w4.cell? ⟨w0.heap.size, 2, none⟩ = some _ := HST.out.blk.cell 2
          have hR := HR.out.below HST.out.below HR.out.lt
          have r0 : w4.cell? ⟨w.heap.size + 1, 0, none⟩ = some (.slice none 0 0) := hR.cell 0
          have r1 : w4.cell? ⟨w.heap.size + 1, 1, none⟩ = some (.slice none 0 0) := hR.cell 1
          have r2 : w4.cell? ⟨w.heap.size + 1, 2, none⟩ = some (.slice none 0 0) := hR.cell 2
          have rf0 := hR.free 0
          have rf1 := hR.free 1
          have rf2 := hR.free 2
          have hlow := HR.out.lt
          have hRl := hR.lt
          clear hR hk0 hu3 hb3
          go_wp2_with fail
          go_region_law (fail)
          all_goals
            go_wp2
            refine bodyPost_ret (v := .tuple #[.slice Au zs.length cu, gbV (.slice Ar rows.length cr) (.slice Ao ones.length co') (.slice A3 cols.length c3)]) (by simp [results, Tryz.results63, go_sem, gbV, r0, r1, r2]) rfl ⟨_, _, _, _, vs, rfl, ?_, ?_, ?_⟩
            · rw [HFIN.out, HSE.out]
              have hne : ∀ a, (Value.slice Au zs.length cu).ownBlock = some a → a ≠ w.heap.size + 1 := fun a e e' => by have h1 := HZS.out.ge a e; omega
              exact own_drew ((((HZS.out.far (p := ⟨w.heap.size + 1, 0, none⟩) hne _).far (p := ⟨w.heap.size + 1, 1, none⟩) hne _).far (p := ⟨w.heap.size + 1, 2, none⟩) hne _).mono HB00.out.size)
            · rw [HTM.out]
              exact ((((HST.out.own.setLow hlow 0 _).setLow hlow 1 _).setLow hlow 2 _).mono HB00.out.size).below (Below.refl _ _).drew
            · exact ((((below_step HB00.out (HST.out.below.mono (Nat.le_refl _))).setCell (p := ⟨w.heap.size + 1, 0, none⟩) (by simp) _).setCell (p := ⟨w.heap.size + 1, 1, none⟩) (by simp) _).setCell (p := ⟨w.heap.size + 1, 2, none⟩) (by simp) _).drew
end Go.Proofs.YtejeppjmlgfiaaaGreat

/- Contract of the reference's tables of a garbled circuit. Conditions: the circuit, the key and the offset are valid. -/
namespace Go.Proofs.YtejeppjmlgfiaaaGreat
open Go.RowKit
set_option linter.unusedVariables false

set_option maxRecDepth 100000 in
set_option maxHeartbeats 4000000 in
theorem c_spec_gbMake {c : Cir} {gv ov : Value} {key off : Int} {w : World} (h : CirIn w gv ov c) (hc : cirB c = true) (hk : 0 ≤ key ∧ key ≤ 1000000000) (ho : 0 ≤ off ∧ off ≤ 65535) :
    Calls Tryz.prog 92 #[cirV c gv ov, .int .i64 key, .int .i64 off] w (RetGb w (tabM (gbZ off) (gbR off) key off c)) := by
  have hbd := cirB_bd hc
  have hgl : c.gs.length ≤ 300 := hbd.2.2.2.2.1
  have hol : c.outs.length ≤ 40 := hbd.2.2.2.2.2
  have hins : 0 ≤ c.ins ∧ c.ins ≤ 40 := by unfold Cir.ins; omega
  have hi4 : 0 ≤ c.i0 ∧ c.i0 ≤ 20 ∧ 0 ≤ c.i1 ∧ c.i1 ≤ 20 := by omega
  have HOB := Lib.hid (zr_outs (F := gbZ off) (R := gbR off) (key := key) (off := off) hc hins.1)
  have hzl := zr_len (F := gbZ off) (R := gbR off) (key := key) (off := off) hc
  have HKB := Lib.hid (cirB_kinds hc)
  have HGB := Lib.hid (cirB_gates hc)
  have HC := Lib.hid hc
  have HBD := Lib.hid (zr_bd (m := 3) (F := gbZ off) (R := gbR off) ho (fun w x y _ _ => gbZ_bd ho w x y) (fun w x y _ _ => gbR_bd ho w x y) key c.ins.toNat)
  have H := Lib.hid h
  obtain ⟨hg, hoo⟩ := h
  obtain ⟨A, cg, rfl, hlg, hmg, hrg⟩ := hg
  obtain ⟨A', co, rfl, -⟩ := hoo
  have HRG := Lib.hid hrg
  unfold maxLen at hmg
  clear hc hbd hrg
  obtain ⟨N, hN⟩ : ∃ N : Nat, c.ins = (N : Int) := ⟨c.ins.toNat, by omega⟩
  have hN2 : c.ins.toNat = N := by omega
  have HT := Lib.hid (show tabM (gbZ off) (gbR off) key off c = ⟨(zrM (gbZ off) (gbR off) key off N c.gs).rows, (zrM (gbZ off) (gbR off) key off N c.gs).ones, coloursM (pickM (zrM (gbZ off) (gbR off) key off N c.gs).zs c.outs)⟩ by unfold tabM; rw [hN2])
  rw [hN2] at HBD HOB hzl
  have HN := Lib.hid hN
  have HN2 := Lib.hid hN2
  obtain ⟨S, hS⟩ : ∃ S, zrM (gbZ off) (gbR off) key off N c.gs = S := ⟨_, rfl⟩
  have HSB := HBD.out c.gs
  rw [hS] at HOB hzl HT HSB
  have HSE := Lib.hid hS
  obtain ⟨zs, rows, ones⟩ := S
  simp only at HOB hzl HT HSB
  have HZB := Lib.hid HSB.1
  have HZL := Lib.hid hzl
  clear hN hN2 hS HSB hzl
  unfold cirV
  obtain ⟨w0, hw0⟩ : ∃ W, ((w.alloc (.cells #[.int .i64 c.i0, .int .i64 c.i1, .slice A c.gs.length cg, .slice A' c.outs.length co] 26)).alloc (.cells #[.slice none 0 0, .slice none 0 0, .slice none 0 0] 50)) = W := ⟨_, rfl⟩
  have HKC : Hid (Blk w0 w.heap.size 26 #[.int .i64 c.i0, .int .i64 c.i1, .slice A c.gs.length cg, .slice A' c.outs.length co]) := by rw [← hw0]; exact (Blk.new _ _ _).alloc _
  have HR : Hid (Blk w0 (w.heap.size + 1) 50 #[.slice none 0 0, .slice none 0 0, .slice none 0 0]) := by rw [← hw0]; have := Blk.new (w.alloc (.cells #[.int .i64 c.i0, .int .i64 c.i1, .slice A c.gs.length cg, .slice A' c.outs.length co] 26)) 50 #[.slice none 0 0, .slice none 0 0, .slice none 0 0]; simp only [World.size_alloc] at this; exact this
  have HB : Hid (Below w.heap.size w w0) := by rw [← hw0]; exact ((Below.refl _ _).alloc (Nat.le_refl _) _).alloc (by simp) _
  have hz0 : w.heap.size + 2 ≤ w0.heap.size := by rw [← hw0]; simp
  have x0 : w0.cell? ⟨w.heap.size, 0, none⟩ = some (.int .i64 c.i0) := HKC.out.cell 0
  have x1 : w0.cell? ⟨w.heap.size, 1, none⟩ = some (.int .i64 c.i1) := HKC.out.cell 1
  have x2 : w0.cell? ⟨w.heap.size, 2, none⟩ = some (.slice A c.gs.length cg) := HKC.out.cell 2
  have x3 : w0.cell? ⟨w.heap.size, 3, none⟩ = some (.slice A' c.outs.length co) := HKC.out.cell 3
  go_enter Tryz.func92, Tryz.ntmps92
  go_wp2_with fail
  clear hw0 x0 x1 x2 x3
  refine (c_spec_gbZeros (H.out.below HB.out) HC.out hk ho).mono ?_
  rintro e w1 ⟨u, rfl, hzp, hb1⟩
  rw [HN2.out, HSE.out] at hzp
  simp only at hzp
  have HB01 := Lib.hid hb1
  replace HB := Lib.hid (below_step HB.out hb1)
  replace HKC := Lib.hid (HKC.out.step hb1)
  have HZ := Lib.hid hzp
  have hz1 : w.heap.size + 2 ≤ w1.heap.size := Nat.le_trans hz0 hb1.size
  obtain ⟨Az, cz, rfl, hlz, hmz, -⟩ := own_form HZ.out
  unfold maxLen at hmz
  have x3 : w1.cell? ⟨w.heap.size, 3, none⟩ = some (.slice A' c.outs.length co) := HKC.out.cell 3
  have hzl2 : zs.length ≤ 340 := by have := HN.out; have := HZL.out; omega
  clear hb1 hzp
  go_wp2_with fail
  refine (c_spec_ciPick HZ.out.ints (H.out.below HB.out).outs (by omega) (by omega) HOB.out).mono ?_
  rintro e w2 ⟨u2, rfl, hu2, hb2⟩
  have HB12 := Lib.hid hb2
  have HU2 := Lib.hid hu2
  obtain ⟨A2, c2, rfl, -⟩ := hu2.ints
  clear hu2 hb2 x3
  go_wp2_with fail
  refine (c_spec_lbColours HU2.out.ints (by rw [pickM_length]; omega) (fun x hx => by
    simp only [pickM, List.mem_map] at hx
    obtain ⟨k, -, rfl⟩ := hx
    have := elt_bd (k := k) HZB.out
    unfold elt at this; omega)).mono ?_
  rintro e w3 ⟨u3, rfl, hu3, hb3⟩
  obtain ⟨cols, hcols⟩ : ∃ cols, coloursM (pickM zs c.outs) = cols := ⟨_, rfl⟩
  rw [hcols] at hu3 HT
  clear hcols
  have HB13 := Lib.hid (below_step HB12.out hb3)
  have HU3 := Lib.hid (hu3.mono HB12.out.size)
  obtain ⟨A3, c3, rfl, -⟩ := hu3.ints
  have HB03 := Lib.hid (below_step HB01.out HB13.out)
  have HS := Lib.hid (sta_new (t := 50) (OwnRs.nil w3 w0.heap.size) (HU3.out.mono HB01.out.size) (fun y hy g _ e => by simp at hy; subst hy; cases e) HB03.out)
  have HB14 := Lib.hid (HB13.out.alloc HB13.out.size (.cells #[.slice none 0 0, .slice none 0 0, .slice A3 cols.length c3] 50))
  have hb1w : w1.heap.size ≤ w3.heap.size := HB13.out.size
  have x2 : (w3.alloc (.cells #[.slice none 0 0, .slice none 0 0, .slice A3 cols.length c3] 50)).cell? ⟨w.heap.size, 2, none⟩ = some (.slice A c.gs.length cg) := (HKC.out.step HB14.out).cell 2
  clear hu3 hb3 HB12 HU2
  go_wp2_with fail
  have hlo1 : w1.heap.size ≤ w3.heap.size := hb1w
  clear x2
  go_loopw [25] (fun i wr => ∃ (j : Nat) (ov rv : Value) (vs : List Value), j ≤ c.gs.length ∧ i = .int .i64 j ∧ Hid (Sta 50 wr w0 w3.heap.size rv ov (.slice A3 cols.length c3) vs ⟨(zrM (gbZ off) (gbR off) key off N (c.gs.take j)).rows, (zrM (gbZ off) (gbR off) key off N (c.gs.take j)).ones, cols⟩) ∧ Hid (Below w1.heap.size w1 wr) ∧ Hid (∀ g, ov.ownBlock = some g → w1.heap.size ≤ g) ∧ Hid (∀ g, rv.ownBlock = some g → w1.heap.size ≤ g)) (fun i _ => c.gs.length - (intOf i).toNat)
  case atStart => exact ⟨0, _, _, _, Nat.zero_le _, rfl, HS, HB14, Lib.hid (fun g e => by cases e), Lib.hid (fun g e => by cases e)⟩
  case round =>
    obtain ⟨j, ov, rv, vs, hj, rfl, HS, HB1, HOV, HRV⟩ := hrel
    clear HB14
    obtain ⟨wa, rfl⟩ : ∃ W, W = wr := ⟨wr, rfl⟩
    have HBW := Lib.hid (below_step HB.out HB1.out)
    have HKW := Lib.hid (HKC.out.step HB1.out)
    by_cases hjl : j < c.gs.length
    · obtain ⟨b, o, g, rfl, hbl, hgk, c0, c1', c2'⟩ := (HRG.out.below HBW.out).gate_at hjl
      have hgb := gate_ab (gatesB_at _ _ j g HGB.out hgk)
      obtain ⟨i1, i2, i3⟩ := zr_inv (F := gbZ off) (R := gbR off) (key := key) (off := off) (n := N) HKB.out j (by omega)
      have HSN := Lib.hid (zr_snoc (F := gbZ off) (R := gbR off) (key := key) (off := off) (n := N) hgk)
      have hcl3 := cnt_le 3 c.gs j
      have hcb3 := cnt_bd 3 c.gs
      have hcl1 := cnt_le 1 c.gs j
      have hcb1 := cnt_bd 1 c.gs
      have honl : (zrM (gbZ off) (gbR off) key off N (c.gs.take j)).ones.length ≤ 300 := by omega
      have hrwl : (zrM (gbZ off) (gbR off) key off N (c.gs.take j)).rows.length ≤ 300 := by omega
      obtain ⟨m, hm⟩ : ∃ m : Nat, (N : Int) + (j : Int) = (m : Int) := ⟨N + j, by omega⟩
      have HM := Lib.hid hm
      have hmz' : m < zs.length := by have := HZL.out; omega
      have HMADE := Lib.hid (fun x => zr_made (F := gbZ off) (R := gbR off) (key := key) (off := off) (n := N) (gs := c.gs) (k := j) (x := x))
      rw [HSE.out, i1, show N + j = m by omega] at HMADE
      simp only at HMADE
      have HELT := Lib.hid (fun a => zr_elt (F := gbZ off) (R := gbR off) (key := key) (off := off) (n := N) (gs := c.gs) (k := j) (a := a))
      rw [HSE.out, i1, show N + j = m by omega] at HELT
      simp only at HELT
      rw [HN.out, hm] at hgb
      have hlsn : (zrM (gbZ off) (gbR off) key off N (c.gs.take j)).zs.length = m := by omega
      have HLS := Lib.hid hlsn
      generalize hs : zrM (gbZ off) (gbR off) key off N (c.gs.take j) = s at *
      clear hs hgk i1 i2 i3 hcl3 hcb3 hcl1 hcb1 hlsn
      obtain ⟨gk, ga, gb⟩ := g
      obtain ⟨l, rws, ons⟩ := s
      simp only at c0 c1' c2' honl hrwl HS HMADE HELT HLS hgb
      have hN3 : (N : Int) ≤ 40 := by have := HN.out; omega
      obtain ⟨wb, hwb⟩ : ∃ W, wa.alloc (.cells #[.int .i64 gk, .int .i64 ga, .int .i64 gb] 117) = W := ⟨_, rfl⟩
      have hbb : Below wa.heap.size wa wb := by rw [← hwb]; exact (Below.refl _ _).alloc (Nat.le_refl _) _
      have HBX : Hid (Blk wb wa.heap.size 117 #[.int .i64 gk, .int .i64 ga, .int .i64 gb]) := by rw [← hwb]; exact Blk.new _ _ _
      have HBB := Lib.hid hbb
      have HB2 := Lib.hid (below_step HB1.out hbb)
      have HKW2 := Lib.hid (HKW.out.step hbb)
      have k0 : wb.cell? ⟨w.heap.size, 0, none⟩ = some (.int .i64 c.i0) := HKW2.out.cell 0
      have k1 : wb.cell? ⟨w.heap.size, 1, none⟩ = some (.int .i64 c.i1) := HKW2.out.cell 1
      have k2 : wb.cell? ⟨w.heap.size, 2, none⟩ = some (.slice (some ⟨b, o, none⟩) c.gs.length cg) := HKW2.out.cell 2
      have k3 : wb.cell? ⟨w.heap.size, 3, none⟩ = some (.slice A' c.outs.length co) := HKW2.out.cell 3
      have hI := (fun W (hW : Below wb.heap.size wb W) => c_spec_ciInputs (H.out.below (below_step (below_step HBW.out HBB.out) hW)) hi4)
      rw [HN.out] at hI
      have HI := Lib.hid (hI wb (Below.refl _ _))
      have hwm : IntKind.i64.wrap (m : Int) = (m : Int) := IntWalk.i64_in _ (by omega)
      have hkk := hgb.1
      clear hbb hI
      go_wp2_with fail
      refine HI.out.mono ?_
      rintro e w5 ⟨rfl, hb5⟩
      have HS2 := Lib.hid (HS.out.step (below_step HBB.out hb5))
      replace HB2 := Lib.hid (below_step HB2.out hb5)
      replace HBX := Lib.hid (HBX.out.step hb5)
      have y0 : w5.cell? ⟨wa.heap.size, 0, none⟩ = some (.int .i64 gk) := HBX.out.cell 0
      have y1 : w5.cell? ⟨wa.heap.size, 1, none⟩ = some (.int .i64 ga) := HBX.out.cell 1
      have y2 : w5.cell? ⟨wa.heap.size, 2, none⟩ = some (.int .i64 gb) := HBX.out.cell 2
      have hsz05 : w0.heap.size ≤ w5.heap.size := HS2.out.below.size
      clear hb5 k0 k1 k2 k3 c0 c1' c2' HI
      have hm0 : (0 : Int) ≤ (m : Int) := Int.natCast_nonneg _
      have hm1 : (m : Int) < (zs.length : Int) := by omega
      obtain ⟨gz, cz', ez, -, hgz, hcz⟩ := own_at (HZ.out.below HB2.out) (by intro e; rw [e] at hmz'; simp at hmz')
      injection ez with ez1 ez2 ez3
      subst ez1
      have hat : ∀ (k : Nat), k < zs.length → w5.cell? ⟨gz, k, none⟩ = some (.int .i64 (elt zs (k : Int))) := fun k hk => hcz k _ (by
        unfold elt; rw [Int.toNat_natCast, List.getElem?_eq_getElem hk]; simp [List.getD, List.getElem?_eq_getElem hk])
      have HAT := Lib.hid hat
      clear hcz hat ez2 ez3
      have xr : Hid (∀ W, Below w5.heap.size w5 W → W.cell? ⟨w3.heap.size, 0, none⟩ = some rv) := Lib.hid (belowCell (HS2.out.blk.cell 0))
      have xo : Hid (∀ W, Below w5.heap.size w5 W → W.cell? ⟨w3.heap.size, 1, none⟩ = some ov) := Lib.hid (belowCell (HS2.out.blk.cell 1))
      have hcm : w5.cell? ⟨gz, m, none⟩ = some (.int .i64 (elt zs (m : Int))) := HAT.out m hmz'
      have hkk4 : gk = 1 ∨ gk = 3 ∨ (gk ≠ 1 ∧ gk ≠ 3) := by omega
      rcases hkk4 with rfl | rfl | ⟨h1, h3⟩
      · -- and
        have hab := hgb.2.1 (Or.inr rfl)
        obtain ⟨ja, rfl⟩ := Int.eq_ofNat_of_zero_le hab.1
        obtain ⟨jb, rfl⟩ := Int.eq_ofNat_of_zero_le hab.2.2.1
        have hja1 : (ja : Int) < (zs.length : Int) := by omega
        have hjb1 : (jb : Int) < (zs.length : Int) := by omega
        have hja0 : (0 : Int) ≤ (ja : Int) := Int.natCast_nonneg _
        have hjb0 : (0 : Int) ≤ (jb : Int) := Int.natCast_nonneg _
        have hca := HAT.out ja (by omega)
        have hcb := HAT.out jb (by omega)
        have HW := Lib.hid (show zStep (gbZ off) (gbR off) key off ⟨l, rws, ons⟩ ⟨1, (ja : Int), (jb : Int)⟩ = ⟨l ++ [gbZ off (m : Int) (elt zs (ja : Int)) (elt zs (jb : Int))], rws ++ [gbR off (m : Int) (elt zs (ja : Int)) (elt zs (jb : Int))], ons⟩ by
          unfold zStep; simp only [Int.reduceEq, if_false]; rw [HELT.out _ hab.1 hab.2.1, HELT.out _ hab.2.2.1 hab.2.2.2, HLS.out])
        have hel := HMADE.out (gbZ off (m : Int) (elt zs (ja : Int)) (elt zs (jb : Int))) (by rw [HSN.out, HW.out])
        have ba := elt_bd (k := (ja : Int)) HZB.out
        have bb := elt_bd (k := (jb : Int)) HZB.out
        have HC := Lib.hid (fun W => c_spec_gbRows (w := W) hel ho (by omega) ba bb)
        have hvl := HS2.out.own.rows.len
        simp only at hvl
        generalize gbR off (m : Int) (elt zs (ja : Int)) (elt zs (jb : Int)) = rr at *
        generalize gbZ off (m : Int) (elt zs (ja : Int)) (elt zs (jb : Int)) = zz at *
        generalize elt zs (ja : Int) = xa at *
        generalize elt zs (jb : Int) = xb at *
        generalize elt zs (m : Int) = xm at *
        have xr0 := xr.out _ (Below.refl _ _)
        clear hel hab hgb xo
        clear HBD HKB HGB HZB HOB HZL HT
        have Q1 := Lib.hid (belowCell y1)
        have Q2 := Lib.hid (belowCell y2)
        have Q3 := Lib.hid (belowCell hca)
        have Q4 := Lib.hid (belowCell hcb)
        have Q5 := Lib.hid (belowCell hcm)
        have HN1 := Lib.hid (fun (e : some wa.heap.size = rv.ownBlock) => Nat.lt_irrefl _ (HS.out.own.bd rv (by simp) _ e.symm).2)
        have hgz1 : gz < w1.heap.size := HZ.out.lt gz rfl
        have HN2 := Lib.hid (fun (e : some gz = rv.ownBlock) => Nat.lt_irrefl _ (Nat.lt_of_lt_of_le hgz1 (HRV.out _ e.symm)))
        have HN3 := Lib.hid (show w3.heap.size ≠ wa.heap.size from Nat.ne_of_lt HS.out.blk.lt)
        have HN4 := Lib.hid (show w3.heap.size ≠ gz by omega)
        go_wp2_with fail
        refine wp_region_held_drew (S := fun W => W.cell? ⟨wa.heap.size, 1, none⟩ = some (.int .i64 (ja : Int)) ∧ W.cell? ⟨wa.heap.size, 2, none⟩ = some (.int .i64 (jb : Int)) ∧ W.cell? ⟨gz, ja, none⟩ = some (.int .i64 xa) ∧ W.cell? ⟨gz, jb, none⟩ = some (.int .i64 xb) ∧ W.cell? ⟨gz, m, none⟩ = some (.int .i64 xm)) (by kernel_rfl) ⟨y1, y2, hca, hcb, hcm⟩ (fun hHeld => ?_)
        first | (refine wpAnyH_take (i := 0) (oi := ?oi516) (v := ?_) ?hi516 (by kernel_rfl) (by kernel_rfl) (by kernel_rfl) ?hq516 (Or.inl ⟨?hw516, ?hy516⟩) (by assumption) ?rest516; (case hi516 => (simp only [List.getElem?_toArray, List.getElem?_cons_zero]; rfl)); (case hq516 => exact fun _ _ _ h => h); (case hw516 => rfl); (case hy516 => (intro w hSw; (try dsimp only at hSw); go_simp; try (with_reducible rfl))); (try simp only [Act.put, List.setIfInBounds_toArray, List.set_cons_zero, List.set_cons_succ])) | (refine wpAnyH_take (i := 0) (oi := ?oi517) (v := undef) ?hi517 (by kernel_rfl) (by kernel_rfl) (by kernel_rfl) ?hq517 (Or.inr ⟨?hw517, rfl⟩) (by assumption) ?rest517; (case hi517 => (simp only [List.getElem?_toArray, List.getElem?_cons_zero]; rfl)); (case hq517 => exact fun _ _ _ h => h); (case hw517 => rfl); (try simp only [Act.put, List.setIfInBounds_toArray, List.set_cons_zero, List.set_cons_succ]))
        first | (refine wpAnyH_take (i := 2) (oi := ?oi518) (v := ?_) ?hi518 (by kernel_rfl) (by kernel_rfl) (by kernel_rfl) ?hq518 (Or.inl ⟨?hw518, ?hy518⟩) (by assumption) ?rest518; (case hi518 => (simp only [List.getElem?_toArray, List.getElem?_cons_succ, List.getElem?_cons_zero]; rfl)); (case hq518 => exact fun _ _ _ h => h); (case hw518 => rfl); (case hy518 => (intro w hSw; (try dsimp only at hSw); go_simp; try (with_reducible rfl))); (try simp only [Act.put, List.setIfInBounds_toArray, List.set_cons_zero, List.set_cons_succ])) | (refine wpAnyH_take (i := 2) (oi := ?oi519) (v := undef) ?hi519 (by kernel_rfl) (by kernel_rfl) (by kernel_rfl) ?hq519 (Or.inr ⟨?hw519, rfl⟩) (by assumption) ?rest519; (case hi519 => (simp only [List.getElem?_toArray, List.getElem?_cons_succ, List.getElem?_cons_zero]; rfl)); (case hq519 => exact fun _ _ _ h => h); (case hw519 => rfl); (try simp only [Act.put, List.setIfInBounds_toArray, List.set_cons_zero, List.set_cons_succ]))
        first | (refine wpAnyH_take (i := 3) (oi := ?oi520) (v := ?_) ?hi520 (by kernel_rfl) (by kernel_rfl) (by kernel_rfl) ?hq520 (Or.inl ⟨?hw520, ?hy520⟩) (by assumption) ?rest520; (case hi520 => (simp only [List.getElem?_toArray, List.getElem?_cons_succ, List.getElem?_cons_zero]; rfl)); (case hq520 => exact fun _ _ _ h => h); (case hw520 => rfl); (case hy520 => (intro w hSw; (try dsimp only at hSw); go_simp; try (with_reducible rfl))); (try simp only [Act.put, List.setIfInBounds_toArray, List.set_cons_zero, List.set_cons_succ])) | (refine wpAnyH_take (i := 3) (oi := ?oi521) (v := undef) ?hi521 (by kernel_rfl) (by kernel_rfl) (by kernel_rfl) ?hq521 (Or.inr ⟨?hw521, rfl⟩) (by assumption) ?rest521; (case hi521 => (simp only [List.getElem?_toArray, List.getElem?_cons_succ, List.getElem?_cons_zero]; rfl)); (case hq521 => exact fun _ _ _ h => h); (case hw521 => rfl); (try simp only [Act.put, List.setIfInBounds_toArray, List.set_cons_zero, List.set_cons_succ]))
        first | (refine wpAnyH_take (i := 4) (oi := ?oi522) (v := ?_) ?hi522 (by kernel_rfl) (by kernel_rfl) (by kernel_rfl) ?hq522 (Or.inl ⟨?hw522, ?hy522⟩) (by assumption) ?rest522; (case hi522 => (simp only [List.getElem?_toArray, List.getElem?_cons_succ, List.getElem?_cons_zero]; rfl)); (case hq522 => exact fun _ _ _ h => h); (case hw522 => rfl); (case hy522 => (intro w hSw; (try dsimp only at hSw); go_simp; try (with_reducible rfl))); (try simp only [Act.put, List.setIfInBounds_toArray, List.set_cons_zero, List.set_cons_succ])) | (refine wpAnyH_take (i := 4) (oi := ?oi523) (v := undef) ?hi523 (by kernel_rfl) (by kernel_rfl) (by kernel_rfl) ?hq523 (Or.inr ⟨?hw523, rfl⟩) (by assumption) ?rest523; (case hi523 => (simp only [List.getElem?_toArray, List.getElem?_cons_succ, List.getElem?_cons_zero]; rfl)); (case hq523 => exact fun _ _ _ h => h); (case hw523 => rfl); (try simp only [Act.put, List.setIfInBounds_toArray, List.set_cons_zero, List.set_cons_succ]))
        first | (refine wpAnyH_take (i := 5) (oi := ?oi524) (v := ?_) ?hi524 (by kernel_rfl) (by kernel_rfl) (by kernel_rfl) ?hq524 (Or.inl ⟨?hw524, ?hy524⟩) (by assumption) ?rest524; (case hi524 => (simp only [List.getElem?_toArray, List.getElem?_cons_succ, List.getElem?_cons_zero]; rfl)); (case hq524 => exact fun _ _ _ h => h); (case hw524 => rfl); (case hy524 => (intro w hSw; (try dsimp only at hSw); go_simp; try (with_reducible rfl))); (try simp only [Act.put, List.setIfInBounds_toArray, List.set_cons_zero, List.set_cons_succ])) | (refine wpAnyH_take (i := 5) (oi := ?oi525) (v := undef) ?hi525 (by kernel_rfl) (by kernel_rfl) (by kernel_rfl) ?hq525 (Or.inr ⟨?hw525, rfl⟩) (by assumption) ?rest525; (case hi525 => (simp only [List.getElem?_toArray, List.getElem?_cons_succ, List.getElem?_cons_zero]; rfl)); (case hq525 => exact fun _ _ _ h => h); (case hw525 => rfl); (try simp only [Act.put, List.setIfInBounds_toArray, List.set_cons_zero, List.set_cons_succ]))
        first | (refine wpAnyH_take (i := 6) (oi := ?oi526) (v := ?_) ?hi526 (by kernel_rfl) (by kernel_rfl) (by kernel_rfl) ?hq526 (Or.inl ⟨?hw526, ?hy526⟩) (by assumption) ?rest526; (case hi526 => (simp only [List.getElem?_toArray, List.getElem?_cons_succ, List.getElem?_cons_zero]; rfl)); (case hq526 => exact fun _ _ _ h => h); (case hw526 => rfl); (case hy526 => (intro w hSw; (try dsimp only at hSw); go_simp; try (with_reducible rfl))); (try simp only [Act.put, List.setIfInBounds_toArray, List.set_cons_zero, List.set_cons_succ])) | (refine wpAnyH_take (i := 6) (oi := ?oi527) (v := undef) ?hi527 (by kernel_rfl) (by kernel_rfl) (by kernel_rfl) ?hq527 (Or.inr ⟨?hw527, rfl⟩) (by assumption) ?rest527; (case hi527 => (simp only [List.getElem?_toArray, List.getElem?_cons_succ, List.getElem?_cons_zero]; rfl)); (case hq527 => exact fun _ _ _ h => h); (case hw527 => rfl); (try simp only [Act.put, List.setIfInBounds_toArray, List.set_cons_zero, List.set_cons_succ]))
        first | (refine wpAnyH_take (i := 7) (oi := ?oi528) (v := ?_) ?hi528 (by kernel_rfl) (by kernel_rfl) (by kernel_rfl) ?hq528 (Or.inl ⟨?hw528, ?hy528⟩) (by assumption) ?rest528; (case hi528 => (simp only [List.getElem?_toArray, List.getElem?_cons_succ, List.getElem?_cons_zero]; rfl)); (case hq528 => exact fun _ _ _ h => h); (case hw528 => rfl); (case hy528 => (intro w hSw; (try dsimp only at hSw); go_simp; try (with_reducible rfl))); (try simp only [Act.put, List.setIfInBounds_toArray, List.set_cons_zero, List.set_cons_succ])) | (refine wpAnyH_take (i := 7) (oi := ?oi529) (v := undef) ?hi529 (by kernel_rfl) (by kernel_rfl) (by kernel_rfl) ?hq529 (Or.inr ⟨?hw529, rfl⟩) (by assumption) ?rest529; (case hi529 => (simp only [List.getElem?_toArray, List.getElem?_cons_succ, List.getElem?_cons_zero]; rfl)); (case hq529 => exact fun _ _ _ h => h); (case hw529 => rfl); (try simp only [Act.put, List.setIfInBounds_toArray, List.set_cons_zero, List.set_cons_succ]))
        first | (refine wpAnyH_take (i := 8) (oi := ?oi530) (v := ?_) ?hi530 (by kernel_rfl) (by kernel_rfl) (by kernel_rfl) ?hq530 (Or.inl ⟨?hw530, ?hy530⟩) (by assumption) ?rest530; (case hi530 => (simp only [List.getElem?_toArray, List.getElem?_cons_succ, List.getElem?_cons_zero]; rfl)); (case hq530 => exact fun _ _ _ h => h); (case hw530 => rfl); (case hy530 => (intro w hSw; (try dsimp only at hSw); go_simp; try (with_reducible rfl))); (try simp only [Act.put, List.setIfInBounds_toArray, List.set_cons_zero, List.set_cons_succ])) | (refine wpAnyH_take (i := 8) (oi := ?oi531) (v := undef) ?hi531 (by kernel_rfl) (by kernel_rfl) (by kernel_rfl) ?hq531 (Or.inr ⟨?hw531, rfl⟩) (by assumption) ?rest531; (case hi531 => (simp only [List.getElem?_toArray, List.getElem?_cons_succ, List.getElem?_cons_zero]; rfl)); (case hq531 => exact fun _ _ _ h => h); (case hw531 => rfl); (try simp only [Act.put, List.setIfInBounds_toArray, List.set_cons_zero, List.set_cons_succ]))
        first | (refine wpAnyH_take (i := 9) (oi := ?oi532) (v := ?_) ?hi532 (by kernel_rfl) (by kernel_rfl) (by kernel_rfl) ?hq532 (Or.inl ⟨?hw532, ?hy532⟩) (by assumption) ?rest532; (case hi532 => (simp only [List.getElem?_toArray, List.getElem?_cons_succ, List.getElem?_cons_zero]; rfl)); (case hq532 => exact fun _ _ _ h => h); (case hw532 => rfl); (case hy532 => (intro w hSw; (try dsimp only at hSw); go_simp; try (with_reducible rfl))); (try simp only [Act.put, List.setIfInBounds_toArray, List.set_cons_zero, List.set_cons_succ])) | (refine wpAnyH_take (i := 9) (oi := ?oi533) (v := undef) ?hi533 (by kernel_rfl) (by kernel_rfl) (by kernel_rfl) ?hq533 (Or.inr ⟨?hw533, rfl⟩) (by assumption) ?rest533; (case hi533 => (simp only [List.getElem?_toArray, List.getElem?_cons_succ, List.getElem?_cons_zero]; rfl)); (case hq533 => exact fun _ _ _ h => h); (case hw533 => rfl); (try simp only [Act.put, List.setIfInBounds_toArray, List.set_cons_zero, List.set_cons_succ]))
        first | (refine wpAnyH_take (i := 10) (oi := ?oi534) (v := ?_) ?hi534 (by kernel_rfl) (by kernel_rfl) (by kernel_rfl) ?hq534 (Or.inl ⟨?hw534, ?hy534⟩) (by assumption) ?rest534; (case hi534 => (simp only [List.getElem?_toArray, List.getElem?_cons_succ, List.getElem?_cons_zero]; rfl)); (case hq534 => exact fun _ _ _ h => h); (case hw534 => rfl); (case hy534 => (intro w hSw; (try dsimp only at hSw); go_simp; try (with_reducible rfl))); (try simp only [Act.put, List.setIfInBounds_toArray, List.set_cons_zero, List.set_cons_succ])) | (refine wpAnyH_take (i := 10) (oi := ?oi535) (v := undef) ?hi535 (by kernel_rfl) (by kernel_rfl) (by kernel_rfl) ?hq535 (Or.inr ⟨?hw535, rfl⟩) (by assumption) ?rest535; (case hi535 => (simp only [List.getElem?_toArray, List.getElem?_cons_succ, List.getElem?_cons_zero]; rfl)); (case hq535 => exact fun _ _ _ h => h); (case hw535 => rfl); (try simp only [Act.put, List.setIfInBounds_toArray, List.set_cons_zero, List.set_cons_succ]))
        first | (refine wpAnyH_take (i := 11) (oi := ?oi536) (v := ?_) ?hi536 (by kernel_rfl) (by kernel_rfl) (by kernel_rfl) ?hq536 (Or.inl ⟨?hw536, ?hy536⟩) (by assumption) ?rest536; (case hi536 => (simp only [List.getElem?_toArray, List.getElem?_cons_succ, List.getElem?_cons_zero]; rfl)); (case hq536 => exact fun _ _ _ h => h); (case hw536 => rfl); (case hy536 => (intro w hSw; (try dsimp only at hSw); go_simp; try (with_reducible rfl))); (try simp only [Act.put, List.setIfInBounds_toArray, List.set_cons_zero, List.set_cons_succ])) | (refine wpAnyH_take (i := 11) (oi := ?oi537) (v := undef) ?hi537 (by kernel_rfl) (by kernel_rfl) (by kernel_rfl) ?hq537 (Or.inr ⟨?hw537, rfl⟩) (by assumption) ?rest537; (case hi537 => (simp only [List.getElem?_toArray, List.getElem?_cons_succ, List.getElem?_cons_zero]; rfl)); (case hq537 => exact fun _ _ _ h => h); (case hw537 => rfl); (try simp only [Act.put, List.setIfInBounds_toArray, List.set_cons_zero, List.set_cons_succ]))
        first | (refine wpAnyH_take (i := 12) (oi := ?oi538) (v := ?_) ?hi538 (by kernel_rfl) (by kernel_rfl) (by kernel_rfl) ?hq538 (Or.inl ⟨?hw538, ?hy538⟩) (by assumption) ?rest538; (case hi538 => (simp only [List.getElem?_toArray, List.getElem?_cons_succ, List.getElem?_cons_zero]; rfl)); (case hq538 => exact fun _ _ _ h => h); (case hw538 => rfl); (case hy538 => (intro w hSw; (try dsimp only at hSw); go_simp; try (with_reducible rfl))); (try simp only [Act.put, List.setIfInBounds_toArray, List.set_cons_zero, List.set_cons_succ])) | (refine wpAnyH_take (i := 12) (oi := ?oi539) (v := undef) ?hi539 (by kernel_rfl) (by kernel_rfl) (by kernel_rfl) ?hq539 (Or.inr ⟨?hw539, rfl⟩) (by assumption) ?rest539; (case hi539 => (simp only [List.getElem?_toArray, List.getElem?_cons_succ, List.getElem?_cons_zero]; rfl)); (case hq539 => exact fun _ _ _ h => h); (case hw539 => rfl); (try simp only [Act.put, List.setIfInBounds_toArray, List.set_cons_zero, List.set_cons_succ]))
        first | (refine wpAnyH_take (i := 13) (oi := ?oi540) (v := ?_) ?hi540 (by kernel_rfl) (by kernel_rfl) (by kernel_rfl) ?hq540 (Or.inl ⟨?hw540, ?hy540⟩) (by assumption) ?rest540; (case hi540 => (simp only [List.getElem?_toArray, List.getElem?_cons_succ, List.getElem?_cons_zero]; rfl)); (case hq540 => exact fun _ _ _ h => h); (case hw540 => rfl); (case hy540 => (intro w hSw; (try dsimp only at hSw); go_simp; try (with_reducible rfl))); (try simp only [Act.put, List.setIfInBounds_toArray, List.set_cons_zero, List.set_cons_succ])) | (refine wpAnyH_take (i := 13) (oi := ?oi541) (v := undef) ?hi541 (by kernel_rfl) (by kernel_rfl) (by kernel_rfl) ?hq541 (Or.inr ⟨?hw541, rfl⟩) (by assumption) ?rest541; (case hi541 => (simp only [List.getElem?_toArray, List.getElem?_cons_succ, List.getElem?_cons_zero]; rfl)); (case hq541 => exact fun _ _ _ h => h); (case hw541 => rfl); (try simp only [Act.put, List.setIfInBounds_toArray, List.set_cons_zero, List.set_cons_succ]))
        first | (refine wpAnyH_take (i := 14) (oi := ?oi542) (v := ?_) ?hi542 (by kernel_rfl) (by kernel_rfl) (by kernel_rfl) ?hq542 (Or.inl ⟨?hw542, ?hy542⟩) (by assumption) ?rest542; (case hi542 => (simp only [List.getElem?_toArray, List.getElem?_cons_succ, List.getElem?_cons_zero]; rfl)); (case hq542 => exact fun _ _ _ h => h); (case hw542 => rfl); (case hy542 => (intro w hSw; (try dsimp only at hSw); go_simp; try (with_reducible rfl))); (try simp only [Act.put, List.setIfInBounds_toArray, List.set_cons_zero, List.set_cons_succ])) | (refine wpAnyH_take (i := 14) (oi := ?oi543) (v := undef) ?hi543 (by kernel_rfl) (by kernel_rfl) (by kernel_rfl) ?hq543 (Or.inr ⟨?hw543, rfl⟩) (by assumption) ?rest543; (case hi543 => (simp only [List.getElem?_toArray, List.getElem?_cons_succ, List.getElem?_cons_zero]; rfl)); (case hq543 => exact fun _ _ _ h => h); (case hw543 => rfl); (try simp only [Act.put, List.setIfInBounds_toArray, List.set_cons_zero, List.set_cons_succ]))
        first | (refine wpAnyH_take (i := 15) (oi := ?oi544) (v := ?_) ?hi544 (by kernel_rfl) (by kernel_rfl) (by kernel_rfl) ?hq544 (Or.inl ⟨?hw544, ?hy544⟩) (by assumption) ?rest544; (case hi544 => (simp only [List.getElem?_toArray, List.getElem?_cons_succ, List.getElem?_cons_zero]; rfl)); (case hq544 => exact fun _ _ _ h => h); (case hw544 => rfl); (case hy544 => (intro w hSw; (try dsimp only at hSw); go_simp; try (with_reducible rfl))); (try simp only [Act.put, List.setIfInBounds_toArray, List.set_cons_zero, List.set_cons_succ])) | (refine wpAnyH_take (i := 15) (oi := ?oi545) (v := undef) ?hi545 (by kernel_rfl) (by kernel_rfl) (by kernel_rfl) ?hq545 (Or.inr ⟨?hw545, rfl⟩) (by assumption) ?rest545; (case hi545 => (simp only [List.getElem?_toArray, List.getElem?_cons_succ, List.getElem?_cons_zero]; rfl)); (case hq545 => exact fun _ _ _ h => h); (case hw545 => rfl); (try simp only [Act.put, List.setIfInBounds_toArray, List.set_cons_zero, List.set_cons_succ]))
        first | (refine wpAnyH_take (i := 16) (oi := ?oi546) (v := ?_) ?hi546 (by kernel_rfl) (by kernel_rfl) (by kernel_rfl) ?hq546 (Or.inl ⟨?hw546, ?hy546⟩) (by assumption) ?rest546; (case hi546 => (simp only [List.getElem?_toArray, List.getElem?_cons_succ, List.getElem?_cons_zero]; rfl)); (case hq546 => exact fun _ _ _ h => h); (case hw546 => rfl); (case hy546 => (intro w hSw; (try dsimp only at hSw); go_simp; try (with_reducible rfl))); (try simp only [Act.put, List.setIfInBounds_toArray, List.set_cons_zero, List.set_cons_succ])) | (refine wpAnyH_take (i := 16) (oi := ?oi547) (v := undef) ?hi547 (by kernel_rfl) (by kernel_rfl) (by kernel_rfl) ?hq547 (Or.inr ⟨?hw547, rfl⟩) (by assumption) ?rest547; (case hi547 => (simp only [List.getElem?_toArray, List.getElem?_cons_succ, List.getElem?_cons_zero]; rfl)); (case hq547 => exact fun _ _ _ h => h); (case hw547 => rfl); (try simp only [Act.put, List.setIfInBounds_toArray, List.set_cons_zero, List.set_cons_succ]))
        first | (refine wpAnyH_take (i := 17) (oi := ?oi548) (v := ?_) ?hi548 (by kernel_rfl) (by kernel_rfl) (by kernel_rfl) ?hq548 (Or.inl ⟨?hw548, ?hy548⟩) (by assumption) ?rest548; (case hi548 => (simp only [List.getElem?_toArray, List.getElem?_cons_succ, List.getElem?_cons_zero]; rfl)); (case hq548 => exact fun _ _ _ h => h); (case hw548 => rfl); (case hy548 => (intro w hSw; (try dsimp only at hSw); go_simp; try (with_reducible rfl))); (try simp only [Act.put, List.setIfInBounds_toArray, List.set_cons_zero, List.set_cons_succ])) | (refine wpAnyH_take (i := 17) (oi := ?oi549) (v := undef) ?hi549 (by kernel_rfl) (by kernel_rfl) (by kernel_rfl) ?hq549 (Or.inr ⟨?hw549, rfl⟩) (by assumption) ?rest549; (case hi549 => (simp only [List.getElem?_toArray, List.getElem?_cons_succ, List.getElem?_cons_zero]; rfl)); (case hq549 => exact fun _ _ _ h => h); (case hw549 => rfl); (try simp only [Act.put, List.setIfInBounds_toArray, List.set_cons_zero, List.set_cons_succ]))
        refine wpAnyH_ready (rs := [1, 18]) (by kernel_rfl) (by simp) ?_
        refine AllReadyH.cons (o := ?zoc1) ?zhc1 (fun K hK => ?zst1) ?zmo1
        case zhc1 => (simp only [List.getElem?_toArray, List.getElem?_cons_succ, List.getElem?_cons_zero]; rfl)
        case zst1 =>
          go_simp
          refine hK.out _ _ ?_ (fun hHeld => ?_)
          · (first | exact KS.out _ | exact KP.out | exact KB.out | exact KA.out | exact ⟨y1, y2, hca, hcb, hcm⟩)
          clear hK K
          try simp only [Act.put, List.setIfInBounds_toArray, List.set_cons_zero, List.set_cons_succ]
          refine wpAnyH_ready (rs := [18]) (by kernel_rfl) (by simp) ?_
          refine AllReadyH.cons (o := ?zoc2) ?zhc2 (fun K hK => ?zst2) ?zmo2
          case zhc2 => (simp only [List.getElem?_toArray, List.getElem?_cons_succ, List.getElem?_cons_zero]; rfl)
          case zst2 =>
            go_simp
            refine (HC.out _).mono ?_
            rintro e w9 ⟨u9, rfl, hu9, hb9⟩
            obtain ⟨Au, cu, rfl, -⟩ := hu9.ints
            replace hu9 := Lib.hid hu9
            replace hb9 : Below w5.heap.size w5 w9 := below_step ((Below.refl _ _).drew) hb9
            have hsz9 := hb9.size
            have HS9 := Lib.hid (HS2.out.step hb9)
            have x1 : w9.cell? ⟨w3.heap.size, 0, none⟩ = some rv := xr.out _ hb9
            have x2 : (w9.alloc (.cells #[.slice Au rr.length cu] 24)).cell? ⟨w3.heap.size, 0, none⟩ = some rv := xr.out _ (hb9.alloc hb9.size _)
            have KA := Lib.hid (And.intro (Q1.out _ hb9) (And.intro (Q2.out _ hb9) (And.intro (Q3.out _ hb9) (And.intro (Q4.out _ hb9) (Q5.out _ hb9)))))
            have hb8 := hb9.alloc hb9.size (.cells #[.slice Au rr.length cu] 24)
            have KB := Lib.hid (And.intro (Q1.out _ hb8) (And.intro (Q2.out _ hb8) (And.intro (Q3.out _ hb8) (And.intro (Q4.out _ hb8) (Q5.out _ hb8)))))
            clear hb8
            have HOW : Hid (w9.ownsRow w0.heap.size 24 1 rv rws.length vs) := Lib.hid HS9.out.own.rows.outer
            have HSZ9 := Lib.hid (Nat.le_trans HB2.out.size hsz9)
            have hsz0 : w0.heap.size ≤ w9.heap.size := HS9.out.below.size
            go_wp2_with fail
            refine hK.out _ _ ?_ (fun hHeld => ?_)
            · (first | exact KS.out _ | exact KP.out | exact KB.out | exact KA.out | exact ⟨y1, y2, hca, hcb, hcm⟩)
            clear hK K
            try simp only [Act.put, List.setIfInBounds_toArray, List.set_cons_zero, List.set_cons_succ]
            refine wpAnyH_ready (rs := [19]) (by kernel_rfl) (by simp) ?_
            refine AllReadyH.cons (o := ?zoc3) ?zhc3 (fun K hK => ?zst3) ?zmo3
            case zhc3 => (simp only [List.getElem?_toArray, List.getElem?_cons_succ, List.getElem?_cons_zero]; rfl)
            case zst3 =>
              go_simp
              refine hK.out _ _ ?_ (fun hHeld => ?_)
              · (first | exact KS.out _ | exact KP.out | exact KB.out | exact KA.out | exact ⟨y1, y2, hca, hcb, hcm⟩)
              clear hK K
              try simp only [Act.put, List.setIfInBounds_toArray, List.set_cons_zero, List.set_cons_succ]
              refine wpAnyH_ready (rs := [20]) (by kernel_rfl) (by simp) ?_
              refine AllReadyH.cons (o := ?zoc4) ?zhc4 (fun K hK => ?zst4) ?zmo4
              case zhc4 => (simp only [List.getElem?_toArray, List.getElem?_cons_succ, List.getElem?_cons_zero]; rfl)
              case zst4 =>
                refine step_app1 (B := w0.heap.size) (by rfl) (by rfl) Tryz.underlying33 info_ints rfl (HOW.out.alloc _) (cell_new w9 _ _) (by rfl) (by rfl) rfl (by unfold maxLen; omega) (by omega) (by simp; omega) ?_
                intro v' w2' ho2 hg hfr
                have hk2 := (HS9.out.blk.alloc (.cells #[.slice Au rr.length cu] 24)).grown hg (fun e => HS9.out.far rv (by simp) e.symm)
                have z1 : w2'.cell? ⟨w3.heap.size, 0, none⟩ = some rv := hk2.cell 0
                have zf := hk2.free 0
                clear hk2
                obtain ⟨Av, cv9, rfl, -⟩ := own_sl ho2
                have KP := Lib.hid (And.intro (hg.cell (a := ⟨wa.heap.size, 1, none⟩) KB.out.1 HN1.out) (And.intro (hg.cell (a := ⟨wa.heap.size, 2, none⟩) KB.out.2.1 HN1.out) (And.intro (hg.cell (a := ⟨gz, ja, none⟩) KB.out.2.2.1 HN2.out) (And.intro (hg.cell (a := ⟨gz, jb, none⟩) KB.out.2.2.2.1 HN2.out) (hg.cell (a := ⟨gz, m, none⟩) KB.out.2.2.2.2 HN2.out)))))
                have KS := Lib.hid (fun (v : Value) => And.intro ((World.cell?_setCell_far w2' ⟨w3.heap.size, 0, none⟩ ⟨wa.heap.size, 1, none⟩ v HN3.out).trans KP.out.1) (And.intro ((World.cell?_setCell_far w2' ⟨w3.heap.size, 0, none⟩ ⟨wa.heap.size, 2, none⟩ v HN3.out).trans KP.out.2.1) (And.intro ((World.cell?_setCell_far w2' ⟨w3.heap.size, 0, none⟩ ⟨gz, ja, none⟩ v HN4.out).trans KP.out.2.2.1) (And.intro ((World.cell?_setCell_far w2' ⟨w3.heap.size, 0, none⟩ ⟨gz, jb, none⟩ v HN4.out).trans KP.out.2.2.2.1) ((World.cell?_setCell_far w2' ⟨w3.heap.size, 0, none⟩ ⟨gz, m, none⟩ v HN4.out).trans KP.out.2.2.2.2)))))
                replace ho2 := Lib.hid ho2
                replace hg := Lib.hid hg
                replace hfr := Lib.hid hfr
                refine hK.out _ _ ?_ (fun hHeld => ?_)
                · (first | exact KS.out _ | exact KP.out | exact KB.out | exact KA.out | exact ⟨y1, y2, hca, hcb, hcm⟩)
                clear hK K
                try simp only [Act.put, List.setIfInBounds_toArray, List.set_cons_zero, List.set_cons_succ]
                first | (refine wpAnyH_take (i := 21) (oi := ?oi550) (v := ?_) ?hi550 (by kernel_rfl) (by kernel_rfl) (by kernel_rfl) ?hq550 (Or.inl ⟨?hw550, ?hy550⟩) (by assumption) ?rest550; (case hi550 => (simp only [List.getElem?_toArray, List.getElem?_cons_succ, List.getElem?_cons_zero]; rfl)); (case hq550 => exact fun _ _ _ h => h); (case hw550 => rfl); (case hy550 => (intro w hSw; (try dsimp only at hSw); go_simp; try (with_reducible rfl))); (try simp only [Act.put, List.setIfInBounds_toArray, List.set_cons_zero, List.set_cons_succ])) | (refine wpAnyH_take (i := 21) (oi := ?oi551) (v := undef) ?hi551 (by kernel_rfl) (by kernel_rfl) (by kernel_rfl) ?hq551 (Or.inr ⟨?hw551, rfl⟩) (by assumption) ?rest551; (case hi551 => (simp only [List.getElem?_toArray, List.getElem?_cons_succ, List.getElem?_cons_zero]; rfl)); (case hq551 => exact fun _ _ _ h => h); (case hw551 => rfl); (try simp only [Act.put, List.setIfInBounds_toArray, List.set_cons_zero, List.set_cons_succ]))
                refine wpAnyH_ready (rs := [22]) (by kernel_rfl) (by simp) ?_
                refine AllReadyH.cons (o := ?zoc5) ?zhc5 (fun K hK => ?zst5) ?zmo5
                case zhc5 => (simp only [List.getElem?_toArray, List.getElem?_cons_succ, List.getElem?_cons_zero]; rfl)
                case zst5 =>
                  go_simp
                  refine hK.out _ _ ?_ (fun hHeld => ?_)
                  · (first | exact KS.out _ | exact KP.out | exact KB.out | exact KA.out | exact ⟨y1, y2, hca, hcb, hcm⟩)
                  clear hK K
                  try simp only [Act.put, List.setIfInBounds_toArray, List.set_cons_zero, List.set_cons_succ]
                  refine wpAnyH_done (by kernel_rfl) ?_ _
                  have HSG := Lib.hid (HS2.out.row (w1 := w9.alloc (.cells #[.slice Au rr.length cu] 24)) (w2 := w2') (u := .slice Au rr.length cu) (r := rr) (hb9.alloc hb9.size _) (hu9.out.alloc _) ho2.out hg.out hfr.out)
                  have hrv2 := Lib.hid (fun g e => (hfr.out g e).elim (fun h1 => HRV.out g h1) (fun h1 => Nat.le_trans HSZ9.out (by simp at h1; omega)))
                  have hbg := Lib.hid ((below_step HB2.out (hb9.alloc hb9.size (.cells #[.slice Au rr.length cu] 24))).grown hg.out (Nat.le_trans HB2.out.size (by have := hb9.size; simp; omega)) (fun k e => HRV.out k e))
                  go_wp2
                  go_roundw
                  case rel => exact ⟨j + 1, ov, _, _, by omega, by go_num, by rw [HSN.out, HW.out]; exact HSG, Lib.hid (hbg.out.setCell (p := ⟨w3.heap.size, 0, none⟩) hlo1 _), HOV, hrv2⟩
                  case measure => simp [intOf]; omega
                case zmo5 =>
                  exact AllReadyH.nil
              case zmo4 =>
                exact AllReadyH.nil
            case zmo3 =>
              exact AllReadyH.nil
          case zmo2 =>
            exact AllReadyH.nil
        case zmo1 =>
          refine AllReadyH.cons (o := ?zoc6) ?zhc6 (fun K hK => ?zst6) ?zmo6
          case zhc6 => (simp only [List.getElem?_toArray, List.getElem?_cons_succ, List.getElem?_cons_zero]; rfl)
          case zst6 =>
            go_simp
            refine (HC.out _).mono ?_
            rintro e w9 ⟨u9, rfl, hu9, hb9⟩
            obtain ⟨Au, cu, rfl, -⟩ := hu9.ints
            replace hu9 := Lib.hid hu9
            replace hb9 : Below w5.heap.size w5 w9 := below_step ((Below.refl _ _).drew) hb9
            have hsz9 := hb9.size
            have HS9 := Lib.hid (HS2.out.step hb9)
            have x1 : w9.cell? ⟨w3.heap.size, 0, none⟩ = some rv := xr.out _ hb9
            have x2 : (w9.alloc (.cells #[.slice Au rr.length cu] 24)).cell? ⟨w3.heap.size, 0, none⟩ = some rv := xr.out _ (hb9.alloc hb9.size _)
            have KA := Lib.hid (And.intro (Q1.out _ hb9) (And.intro (Q2.out _ hb9) (And.intro (Q3.out _ hb9) (And.intro (Q4.out _ hb9) (Q5.out _ hb9)))))
            have hb8 := hb9.alloc hb9.size (.cells #[.slice Au rr.length cu] 24)
            have KB := Lib.hid (And.intro (Q1.out _ hb8) (And.intro (Q2.out _ hb8) (And.intro (Q3.out _ hb8) (And.intro (Q4.out _ hb8) (Q5.out _ hb8)))))
            clear hb8
            have HOW : Hid (w9.ownsRow w0.heap.size 24 1 rv rws.length vs) := Lib.hid HS9.out.own.rows.outer
            have HSZ9 := Lib.hid (Nat.le_trans HB2.out.size hsz9)
            have hsz0 : w0.heap.size ≤ w9.heap.size := HS9.out.below.size
            go_wp2_with fail
            refine hK.out _ _ ?_ (fun hHeld => ?_)
            · (first | exact KS.out _ | exact KP.out | exact KB.out | exact KA.out | exact ⟨y1, y2, hca, hcb, hcm⟩)
            clear hK K
            try simp only [Act.put, List.setIfInBounds_toArray, List.set_cons_zero, List.set_cons_succ]
            refine wpAnyH_ready (rs := [1, 19]) (by kernel_rfl) (by simp) ?_
            refine AllReadyH.cons (o := ?zoc7) ?zhc7 (fun K hK => ?zst7) ?zmo7
            case zhc7 => (simp only [List.getElem?_toArray, List.getElem?_cons_succ, List.getElem?_cons_zero]; rfl)
            case zst7 =>
              go_simp
              refine hK.out _ _ ?_ (fun hHeld => ?_)
              · (first | exact KS.out _ | exact KP.out | exact KB.out | exact KA.out | exact ⟨y1, y2, hca, hcb, hcm⟩)
              clear hK K
              try simp only [Act.put, List.setIfInBounds_toArray, List.set_cons_zero, List.set_cons_succ]
              refine wpAnyH_ready (rs := [19]) (by kernel_rfl) (by simp) ?_
              refine AllReadyH.cons (o := ?zoc8) ?zhc8 (fun K hK => ?zst8) ?zmo8
              case zhc8 => (simp only [List.getElem?_toArray, List.getElem?_cons_succ, List.getElem?_cons_zero]; rfl)
              case zst8 =>
                go_simp
                refine hK.out _ _ ?_ (fun hHeld => ?_)
                · (first | exact KS.out _ | exact KP.out | exact KB.out | exact KA.out | exact ⟨y1, y2, hca, hcb, hcm⟩)
                clear hK K
                try simp only [Act.put, List.setIfInBounds_toArray, List.set_cons_zero, List.set_cons_succ]
                refine wpAnyH_ready (rs := [20]) (by kernel_rfl) (by simp) ?_
                refine AllReadyH.cons (o := ?zoc9) ?zhc9 (fun K hK => ?zst9) ?zmo9
                case zhc9 => (simp only [List.getElem?_toArray, List.getElem?_cons_succ, List.getElem?_cons_zero]; rfl)
                case zst9 =>
                  refine step_app1 (B := w0.heap.size) (by rfl) (by rfl) Tryz.underlying33 info_ints rfl (HOW.out.alloc _) (cell_new w9 _ _) (by rfl) (by rfl) rfl (by unfold maxLen; omega) (by omega) (by simp; omega) ?_
                  intro v' w2' ho2 hg hfr
                  have hk2 := (HS9.out.blk.alloc (.cells #[.slice Au rr.length cu] 24)).grown hg (fun e => HS9.out.far rv (by simp) e.symm)
                  have z1 : w2'.cell? ⟨w3.heap.size, 0, none⟩ = some rv := hk2.cell 0
                  have zf := hk2.free 0
                  clear hk2
                  obtain ⟨Av, cv9, rfl, -⟩ := own_sl ho2
                  have KP := Lib.hid (And.intro (hg.cell (a := ⟨wa.heap.size, 1, none⟩) KB.out.1 HN1.out) (And.intro (hg.cell (a := ⟨wa.heap.size, 2, none⟩) KB.out.2.1 HN1.out) (And.intro (hg.cell (a := ⟨gz, ja, none⟩) KB.out.2.2.1 HN2.out) (And.intro (hg.cell (a := ⟨gz, jb, none⟩) KB.out.2.2.2.1 HN2.out) (hg.cell (a := ⟨gz, m, none⟩) KB.out.2.2.2.2 HN2.out)))))
                  have KS := Lib.hid (fun (v : Value) => And.intro ((World.cell?_setCell_far w2' ⟨w3.heap.size, 0, none⟩ ⟨wa.heap.size, 1, none⟩ v HN3.out).trans KP.out.1) (And.intro ((World.cell?_setCell_far w2' ⟨w3.heap.size, 0, none⟩ ⟨wa.heap.size, 2, none⟩ v HN3.out).trans KP.out.2.1) (And.intro ((World.cell?_setCell_far w2' ⟨w3.heap.size, 0, none⟩ ⟨gz, ja, none⟩ v HN4.out).trans KP.out.2.2.1) (And.intro ((World.cell?_setCell_far w2' ⟨w3.heap.size, 0, none⟩ ⟨gz, jb, none⟩ v HN4.out).trans KP.out.2.2.2.1) ((World.cell?_setCell_far w2' ⟨w3.heap.size, 0, none⟩ ⟨gz, m, none⟩ v HN4.out).trans KP.out.2.2.2.2)))))
                  replace ho2 := Lib.hid ho2
                  replace hg := Lib.hid hg
                  replace hfr := Lib.hid hfr
                  refine hK.out _ _ ?_ (fun hHeld => ?_)
                  · (first | exact KS.out _ | exact KP.out | exact KB.out | exact KA.out | exact ⟨y1, y2, hca, hcb, hcm⟩)
                  clear hK K
                  try simp only [Act.put, List.setIfInBounds_toArray, List.set_cons_zero, List.set_cons_succ]
                  first | (refine wpAnyH_take (i := 21) (oi := ?oi552) (v := ?_) ?hi552 (by kernel_rfl) (by kernel_rfl) (by kernel_rfl) ?hq552 (Or.inl ⟨?hw552, ?hy552⟩) (by assumption) ?rest552; (case hi552 => (simp only [List.getElem?_toArray, List.getElem?_cons_succ, List.getElem?_cons_zero]; rfl)); (case hq552 => exact fun _ _ _ h => h); (case hw552 => rfl); (case hy552 => (intro w hSw; (try dsimp only at hSw); go_simp; try (with_reducible rfl))); (try simp only [Act.put, List.setIfInBounds_toArray, List.set_cons_zero, List.set_cons_succ])) | (refine wpAnyH_take (i := 21) (oi := ?oi553) (v := undef) ?hi553 (by kernel_rfl) (by kernel_rfl) (by kernel_rfl) ?hq553 (Or.inr ⟨?hw553, rfl⟩) (by assumption) ?rest553; (case hi553 => (simp only [List.getElem?_toArray, List.getElem?_cons_succ, List.getElem?_cons_zero]; rfl)); (case hq553 => exact fun _ _ _ h => h); (case hw553 => rfl); (try simp only [Act.put, List.setIfInBounds_toArray, List.set_cons_zero, List.set_cons_succ]))
                  refine wpAnyH_ready (rs := [22]) (by kernel_rfl) (by simp) ?_
                  refine AllReadyH.cons (o := ?zoc10) ?zhc10 (fun K hK => ?zst10) ?zmo10
                  case zhc10 => (simp only [List.getElem?_toArray, List.getElem?_cons_succ, List.getElem?_cons_zero]; rfl)
                  case zst10 =>
                    go_simp
                    refine hK.out _ _ ?_ (fun hHeld => ?_)
                    · (first | exact KS.out _ | exact KP.out | exact KB.out | exact KA.out | exact ⟨y1, y2, hca, hcb, hcm⟩)
                    clear hK K
                    try simp only [Act.put, List.setIfInBounds_toArray, List.set_cons_zero, List.set_cons_succ]
                    refine wpAnyH_done (by kernel_rfl) ?_ _
                    have HSG := Lib.hid (HS2.out.row (w1 := w9.alloc (.cells #[.slice Au rr.length cu] 24)) (w2 := w2') (u := .slice Au rr.length cu) (r := rr) (hb9.alloc hb9.size _) (hu9.out.alloc _) ho2.out hg.out hfr.out)
                    have hrv2 := Lib.hid (fun g e => (hfr.out g e).elim (fun h1 => HRV.out g h1) (fun h1 => Nat.le_trans HSZ9.out (by simp at h1; omega)))
                    have hbg := Lib.hid ((below_step HB2.out (hb9.alloc hb9.size (.cells #[.slice Au rr.length cu] 24))).grown hg.out (Nat.le_trans HB2.out.size (by have := hb9.size; simp; omega)) (fun k e => HRV.out k e))
                    go_wp2
                    go_roundw
                    case rel => exact ⟨j + 1, ov, _, _, by omega, by go_num, by rw [HSN.out, HW.out]; exact HSG, Lib.hid (hbg.out.setCell (p := ⟨w3.heap.size, 0, none⟩) hlo1 _), HOV, hrv2⟩
                    case measure => simp [intOf]; omega
                  case zmo10 =>
                    exact AllReadyH.nil
                case zmo9 =>
                  exact AllReadyH.nil
              case zmo8 =>
                exact AllReadyH.nil
            case zmo7 =>
              refine AllReadyH.cons (o := ?zoc11) ?zhc11 (fun K hK => ?zst11) ?zmo11
              case zhc11 => (simp only [List.getElem?_toArray, List.getElem?_cons_succ, List.getElem?_cons_zero]; rfl)
              case zst11 =>
                go_simp
                refine hK.out _ _ ?_ (fun hHeld => ?_)
                · (first | exact KS.out _ | exact KP.out | exact KB.out | exact KA.out | exact ⟨y1, y2, hca, hcb, hcm⟩)
                clear hK K
                try simp only [Act.put, List.setIfInBounds_toArray, List.set_cons_zero, List.set_cons_succ]
                refine wpAnyH_ready (rs := [1]) (by kernel_rfl) (by simp) ?_
                refine AllReadyH.cons (o := ?zoc12) ?zhc12 (fun K hK => ?zst12) ?zmo12
                case zhc12 => (simp only [List.getElem?_toArray, List.getElem?_cons_succ, List.getElem?_cons_zero]; rfl)
                case zst12 =>
                  go_simp
                  refine hK.out _ _ ?_ (fun hHeld => ?_)
                  · (first | exact KS.out _ | exact KP.out | exact KB.out | exact KA.out | exact ⟨y1, y2, hca, hcb, hcm⟩)
                  clear hK K
                  try simp only [Act.put, List.setIfInBounds_toArray, List.set_cons_zero, List.set_cons_succ]
                  refine wpAnyH_ready (rs := [20]) (by kernel_rfl) (by simp) ?_
                  refine AllReadyH.cons (o := ?zoc13) ?zhc13 (fun K hK => ?zst13) ?zmo13
                  case zhc13 => (simp only [List.getElem?_toArray, List.getElem?_cons_succ, List.getElem?_cons_zero]; rfl)
                  case zst13 =>
                    refine step_app1 (B := w0.heap.size) (by rfl) (by rfl) Tryz.underlying33 info_ints rfl (HOW.out.alloc _) (cell_new w9 _ _) (by rfl) (by rfl) rfl (by unfold maxLen; omega) (by omega) (by simp; omega) ?_
                    intro v' w2' ho2 hg hfr
                    have hk2 := (HS9.out.blk.alloc (.cells #[.slice Au rr.length cu] 24)).grown hg (fun e => HS9.out.far rv (by simp) e.symm)
                    have z1 : w2'.cell? ⟨w3.heap.size, 0, none⟩ = some rv := hk2.cell 0
                    have zf := hk2.free 0
                    clear hk2
                    obtain ⟨Av, cv9, rfl, -⟩ := own_sl ho2
                    have KP := Lib.hid (And.intro (hg.cell (a := ⟨wa.heap.size, 1, none⟩) KB.out.1 HN1.out) (And.intro (hg.cell (a := ⟨wa.heap.size, 2, none⟩) KB.out.2.1 HN1.out) (And.intro (hg.cell (a := ⟨gz, ja, none⟩) KB.out.2.2.1 HN2.out) (And.intro (hg.cell (a := ⟨gz, jb, none⟩) KB.out.2.2.2.1 HN2.out) (hg.cell (a := ⟨gz, m, none⟩) KB.out.2.2.2.2 HN2.out)))))
                    have KS := Lib.hid (fun (v : Value) => And.intro ((World.cell?_setCell_far w2' ⟨w3.heap.size, 0, none⟩ ⟨wa.heap.size, 1, none⟩ v HN3.out).trans KP.out.1) (And.intro ((World.cell?_setCell_far w2' ⟨w3.heap.size, 0, none⟩ ⟨wa.heap.size, 2, none⟩ v HN3.out).trans KP.out.2.1) (And.intro ((World.cell?_setCell_far w2' ⟨w3.heap.size, 0, none⟩ ⟨gz, ja, none⟩ v HN4.out).trans KP.out.2.2.1) (And.intro ((World.cell?_setCell_far w2' ⟨w3.heap.size, 0, none⟩ ⟨gz, jb, none⟩ v HN4.out).trans KP.out.2.2.2.1) ((World.cell?_setCell_far w2' ⟨w3.heap.size, 0, none⟩ ⟨gz, m, none⟩ v HN4.out).trans KP.out.2.2.2.2)))))
                    replace ho2 := Lib.hid ho2
                    replace hg := Lib.hid hg
                    replace hfr := Lib.hid hfr
                    refine hK.out _ _ ?_ (fun hHeld => ?_)
                    · (first | exact KS.out _ | exact KP.out | exact KB.out | exact KA.out | exact ⟨y1, y2, hca, hcb, hcm⟩)
                    clear hK K
                    try simp only [Act.put, List.setIfInBounds_toArray, List.set_cons_zero, List.set_cons_succ]
                    first | (refine wpAnyH_take (i := 21) (oi := ?oi554) (v := ?_) ?hi554 (by kernel_rfl) (by kernel_rfl) (by kernel_rfl) ?hq554 (Or.inl ⟨?hw554, ?hy554⟩) (by assumption) ?rest554; (case hi554 => (simp only [List.getElem?_toArray, List.getElem?_cons_succ, List.getElem?_cons_zero]; rfl)); (case hq554 => exact fun _ _ _ h => h); (case hw554 => rfl); (case hy554 => (intro w hSw; (try dsimp only at hSw); go_simp; try (with_reducible rfl))); (try simp only [Act.put, List.setIfInBounds_toArray, List.set_cons_zero, List.set_cons_succ])) | (refine wpAnyH_take (i := 21) (oi := ?oi555) (v := undef) ?hi555 (by kernel_rfl) (by kernel_rfl) (by kernel_rfl) ?hq555 (Or.inr ⟨?hw555, rfl⟩) (by assumption) ?rest555; (case hi555 => (simp only [List.getElem?_toArray, List.getElem?_cons_succ, List.getElem?_cons_zero]; rfl)); (case hq555 => exact fun _ _ _ h => h); (case hw555 => rfl); (try simp only [Act.put, List.setIfInBounds_toArray, List.set_cons_zero, List.set_cons_succ]))
                    refine wpAnyH_ready (rs := [22]) (by kernel_rfl) (by simp) ?_
                    refine AllReadyH.cons (o := ?zoc14) ?zhc14 (fun K hK => ?zst14) ?zmo14
                    case zhc14 => (simp only [List.getElem?_toArray, List.getElem?_cons_succ, List.getElem?_cons_zero]; rfl)
                    case zst14 =>
                      go_simp
                      refine hK.out _ _ ?_ (fun hHeld => ?_)
                      · (first | exact KS.out _ | exact KP.out | exact KB.out | exact KA.out | exact ⟨y1, y2, hca, hcb, hcm⟩)
                      clear hK K
                      try simp only [Act.put, List.setIfInBounds_toArray, List.set_cons_zero, List.set_cons_succ]
                      refine wpAnyH_done (by kernel_rfl) ?_ _
                      have HSG := Lib.hid (HS2.out.row (w1 := w9.alloc (.cells #[.slice Au rr.length cu] 24)) (w2 := w2') (u := .slice Au rr.length cu) (r := rr) (hb9.alloc hb9.size _) (hu9.out.alloc _) ho2.out hg.out hfr.out)
                      have hrv2 := Lib.hid (fun g e => (hfr.out g e).elim (fun h1 => HRV.out g h1) (fun h1 => Nat.le_trans HSZ9.out (by simp at h1; omega)))
                      have hbg := Lib.hid ((below_step HB2.out (hb9.alloc hb9.size (.cells #[.slice Au rr.length cu] 24))).grown hg.out (Nat.le_trans HB2.out.size (by have := hb9.size; simp; omega)) (fun k e => HRV.out k e))
                      go_wp2
                      go_roundw
                      case rel => exact ⟨j + 1, ov, _, _, by omega, by go_num, by rw [HSN.out, HW.out]; exact HSG, Lib.hid (hbg.out.setCell (p := ⟨w3.heap.size, 0, none⟩) hlo1 _), HOV, hrv2⟩
                      case measure => simp [intOf]; omega
                    case zmo14 =>
                      exact AllReadyH.nil
                  case zmo13 =>
                    exact AllReadyH.nil
                case zmo12 =>
                  exact AllReadyH.nil
              case zmo11 =>
                exact AllReadyH.nil
          case zmo6 =>
            exact AllReadyH.nil
      · -- one
        have HW := Lib.hid (show zStep (gbZ off) (gbR off) key off ⟨l, rws, ons⟩ ⟨3, ga, gb⟩ = ⟨l ++ [digM [key, (m : Int), 13, 0]], rws, ons ++ [xorI (digM [key, (m : Int), 13, 0]) off]⟩ by unfold zStep; simp only [Int.reduceEq, if_false, if_true]; rw [HLS.out])
        have hel := HMADE.out (digM [key, (m : Int), 13, 0]) (by rw [HSN.out, HW.out])
        rw [hel] at hcm
        have hd := digM_bd [key, (m : Int), 13, 0]
        generalize digM [key, (m : Int), 13, 0] = z at *
        have hxor := bits_xor hd.1 ho.1 (by omega) (by omega)
        have xo0 := xo.out _ (Below.refl _ _)
        have xo1 := xo.out _ ((Below.refl _ _).alloc (Nat.le_refl _) (.cells #[.int .i64 (xorI z off)] 3))
        have HOW : Hid (OwnI w5.drew w0.heap.size ov ons) := Lib.hid (own_drew HS2.out.own.ones)
        have hszd : w0.heap.size ≤ w5.drew.heap.size := hsz05
        have hb9 := (Below.refl w5.heap.size w5).drew
        clear hel hgb
        go_wp2_with fail
        go_region_law (first
          | (refine step_app1 (B := w0.heap.size) (by rfl) (by rfl) Tryz.underlying24 info_int rfl (HOW.out.alloc _) (cell_new w5.drew _ _) (by rfl) (by rfl) rfl (by unfold maxLen; omega) (by omega) (by simp; omega) ?_; intro v' w2' ho2 hg hfr; have HON := Lib.hid (OwnI.snoc ho2); have hov2 := Lib.hid (fun g e => (hfr g e).elim (fun h1 => HOV.out g h1) (fun h1 => Nat.le_trans HB2.out.size (by simp at h1; omega))); have HSG := Lib.hid (HS2.out.one (hb9.alloc hb9.size (.cells #[.int .i64 (xorI z off)] 3)) HON.out hg hfr); have hbg := Lib.hid ((below_step HB2.out (hb9.alloc hb9.size (.cells #[.int .i64 (xorI z off)] 3))).grown hg (Nat.le_trans HB2.out.size (by have := hb9.size; simp)) (fun k e => HOV.out k e)); have hk2 := ((HS2.out.step hb9).blk.alloc (.cells #[.int .i64 (xorI z off)] 3)).grown hg (fun e => HS2.out.far ov (by simp) e.symm); have z1 : w2'.cell? ⟨w3.heap.size, 1, none⟩ = some ov := hk2.cell 1; have zf := hk2.free 1; clear hk2; obtain ⟨Av, cv9, ev, -⟩ := HON.out.ints; simp only [List.length_append, List.length_cons, List.length_nil, Nat.zero_add] at ev; subst ev))
        all_goals
          go_wp2
          go_roundw
          case rel => exact ⟨j + 1, _, rv, vs, by omega, by go_num, by rw [HSN.out, HW.out]; exact HSG, Lib.hid (hbg.out.setCell (p := ⟨w3.heap.size, 1, none⟩) hlo1 _), hov2, HRV⟩
          case measure => simp [intOf]; omega
      · have HW := Lib.hid (show (zStep (gbZ off) (gbR off) key off ⟨l, rws, ons⟩ ⟨gk, ga, gb⟩).ones = ons ∧ (zStep (gbZ off) (gbR off) key off ⟨l, rws, ons⟩ ⟨gk, ga, gb⟩).rows = rws by
          unfold zStep
          by_cases e0 : gk = 0
          · simp [e0]
          · have e2 : gk = 2 := by omega
            simp [e2])
        clear hmz' HMADE hcm hgb HELT
        go_wp2
        go_roundw
        case rel => exact ⟨j + 1, ov, rv, vs, by omega, by go_num, by rw [HSN.out, HW.out.1, HW.out.2]; exact HS2, HB2, HOV, HRV⟩
        case measure => simp [intOf]; omega
    · obtain rfl : j = c.gs.length := by omega
      have HO2 : Hid (Sta 50 wa w0 w3.heap.size rv ov (.slice A3 cols.length c3) vs ⟨rows, ones, cols⟩) := by have h := HS.out; rw [List.take_of_length_le (Nat.le_refl _), HSE.out] at h; exact h
      clear HS
      obtain ⟨Ar, cr, rfl, -⟩ := HO2.out.own.rows.rowsIn.form
      obtain ⟨Ao, co', rfl, -⟩ := HO2.out.own.ones.ints
      have z0 : wa.cell? ⟨w3.heap.size, 0, none⟩ = some _ := HO2.out.blk.cell 0
      have z1 : wa.cell? ⟨w3.heap.size, 1, none⟩ = some _ := HO2.out.blk.cell 1
      have z2 : wa.cell? ⟨w3.heap.size, 2, none⟩ = some _ := HO2.out.blk.cell 2
      have hR := HR.out.below HO2.out.below HR.out.lt
      have y0 : wa.cell? ⟨w.heap.size + 1, 0, none⟩ = some (.slice none 0 0) := hR.cell 0
      have y1 : wa.cell? ⟨w.heap.size + 1, 1, none⟩ = some (.slice none 0 0) := hR.cell 1
      have y2 : wa.cell? ⟨w.heap.size + 1, 2, none⟩ = some (.slice none 0 0) := hR.cell 2
      have yf0 := hR.free 0
      have yf1 := hR.free 1
      have yf2 := hR.free 2
      have hlow := HR.out.lt
      have hRl := hR.lt
      have hBf := HBW
      clear hR
      go_wp2
      refine bodyPost_ret (v := gbV (.slice Ar rows.length cr) (.slice Ao ones.length co') (.slice A3 cols.length c3)) (by simp [results, Tryz.results92, go_sem, gbV, y0, y1, y2]) rfl ⟨_, _, _, vs, rfl, ?_, ?_⟩
      · rw [HT.out]
        exact (((HO2.out.own.setLow hlow 0 _).setLow hlow 1 _).setLow hlow 2 _).mono (by omega)
      · exact ((hBf.out.setCell (p := ⟨w.heap.size + 1, 0, none⟩) (by simp) _).setCell (p := ⟨w.heap.size + 1, 1, none⟩) (by simp) _).setCell (p := ⟨w.heap.size + 1, 2, none⟩) (by simp) _
end Go.Proofs.YtejeppjmlgfiaaaGreat

/- The call returns tables and whether it could. Plain definitions. -/
namespace Go.Proofs.YtejeppjmlgfiaaaGreat
open Go.RowKit
set_option linter.unusedVariables false

def Gb.none : Gb := ⟨[], [], []⟩
def RetGbB (w : World) (o : Option Gb) (e : Ending) (w' : World) : Prop := ∃ rv ov cv vs, e = .returned (.tuple #[gbV rv ov cv, .bool o.isSome]) ∧ OwnGb w' w.heap.size rv ov cv vs (o.getD Gb.none) ∧ Below w.heap.size w w'
theorem OwnGb.empty (w : World) (B : Nat) : OwnGb w B (.slice none 0 0) (.slice none 0 0) (.slice none 0 0) [] Gb.none :=
  ⟨OwnRs.nil w B, World.ownsRow_nil w B _ 1, World.ownsRow_nil w B _ 1, by
    refine List.pairwise_cons.2 ⟨fun u hu => ?_, List.pairwise_cons.2 ⟨fun u hu => ?_, by simp⟩⟩ <;> (intro g e; cases e)⟩
theorem RetGbB.no {w w' : World} (h : Below w.heap.size w w') : RetGbB w none (.returned (.tuple #[gbV (.slice none 0 0) (.slice none 0 0) (.slice none 0 0), .bool false])) w' := ⟨_, _, _, [], rfl, OwnGb.empty w' _, h⟩
end Go.Proofs.YtejeppjmlgfiaaaGreat

/- Contracts of the exported zero labels and tables. No condition. -/
namespace Go.Proofs.YtejeppjmlgfiaaaGreat
open Go.RowKit
set_option linter.unusedVariables false

def keyB (c : Cir) (key off : Int) : Bool := cirB c && inB key 0 1000000000 && offB off
def zerosM (F : Int → Int → Int → Int → Int) (R : Int → Int → Int → Int → List Int) (c : Cir) (key off : Int) : Option (List Int) := if keyB c key off then some (zrM (F off) (R off) key off c.ins.toNat c.gs).zs else none
def tablesM (F : Int → Int → Int → Int → Int) (R : Int → Int → Int → Int → List Int) (c : Cir) (key off : Int) : Option Gb := if keyB c key off then some (tabM (F off) (R off) key off c) else none
theorem keyB_of {c : Cir} {key off : Int} (h : keyB c key off = true) : cirB c = true ∧ (0 ≤ key ∧ key ≤ 1000000000) ∧ (0 ≤ off ∧ off ≤ 65535) ∧ off % 2 = 1 := by
  simp only [keyB, Bool.and_eq_true] at h
  have h2 := inB_bd h.1.2
  have h3 := offB_bd h.2
  exact ⟨h.1.1, h2, ⟨h3.1, h3.2.1⟩, h3.2.2⟩
theorem c_impl_isKeyed {c : Cir} {gv ov : Value} {key off : Int} {w : World} (h : CirIn w gv ov c) :
    Calls Tryz.prog 70 #[cirV c gv ov, .int .i64 key, .int .i64 off] w fun e w' => e = .returned (.bool (keyB c key off)) ∧ Below w.heap.size w w' := by
  have H := Lib.hid h
  obtain ⟨hg, hoo⟩ := h
  obtain ⟨A, cg, rfl, -⟩ := hg
  obtain ⟨A', co, rfl, -⟩ := hoo
  have HB := Lib.hid ((Below.refl w.heap.size w).alloc (Nat.le_refl _) (.cells #[.int .i64 c.i0, .int .i64 c.i1, .slice A c.gs.length cg, .slice A' c.outs.length co] 26))
  unfold cirV
  rcases h1 : cirB c with _ | _ <;> rcases h2 : inB key 0 1000000000 with _ | _ <;> rcases h3 : offB off with _ | _
  all_goals
    have HM := Lib.hid (show keyB c key off = _ from by unfold keyB; rw [h1, h2, h3])
    go_enter Tryz.func70, Tryz.ntmps70
    go_wp2_with (first | (go_at_call 74; refine (c_impl_IsCircuit (H.out.below HB.out)).mono ?_; rintro e w1 ⟨rfl, hb1⟩) | (go_at_call 79; refine (c_impl_isKey).mono ?_; rintro e w' ⟨rfl, rfl⟩) | (go_at_call 81; refine (c_impl_isOffset).mono ?_; rintro e w' ⟨rfl, rfl⟩))
    go_ret
    exact ⟨by rw [HM.out]; rfl, below_step HB.out hb1⟩
theorem c_spec_gbKeys {c : Cir} {gv ov : Value} {key off : Int} {w : World} (h : CirIn w gv ov c) :
    Calls Tryz.prog 100 #[cirV c gv ov, .int .i64 key, .int .i64 off] w fun e w' => e = .returned (.bool (keyB c key off)) ∧ Below w.heap.size w w' := by
  have H := Lib.hid h
  obtain ⟨hg, hoo⟩ := h
  obtain ⟨A, cg, rfl, -⟩ := hg
  obtain ⟨A', co, rfl, -⟩ := hoo
  have HB := Lib.hid ((Below.refl w.heap.size w).alloc (Nat.le_refl _) (.cells #[.int .i64 c.i0, .int .i64 c.i1, .slice A c.gs.length cg, .slice A' c.outs.length co] 26))
  unfold cirV
  rcases h1 : cirB c with _ | _ <;> rcases h2 : inB key 0 1000000000 with _ | _ <;> rcases h3 : offB off with _ | _
  all_goals
    have HM := Lib.hid (show keyB c key off = _ from by unfold keyB; rw [h1, h2, h3])
    go_enter Tryz.func100, Tryz.ntmps100
    go_wp2_with (first | (go_at_call 107; refine (c_spec_ciGood (H.out.below HB.out)).mono ?_; rintro e w1 ⟨rfl, hb1⟩) | (go_at_call 91; refine (c_spec_shKey).mono ?_; rintro e w' ⟨rfl, rfl⟩) | (go_at_call 134; refine (c_spec_lbOffset).mono ?_; rintro e w' ⟨rfl, rfl⟩))
    go_ret
    exact ⟨by rw [HM.out]; rfl, below_step HB.out hb1⟩
theorem c_spec_hgAsked {c : Cir} {gv ov : Value} {key off : Int} {w : World} (h : CirIn w gv ov c) :
    Calls Tryz.prog 71 #[cirV c gv ov, .int .i64 key, .int .i64 off] w fun e w' => e = .returned (.bool (keyB c key off)) ∧ Below w.heap.size w w' := by
  have H := Lib.hid h
  obtain ⟨hg, hoo⟩ := h
  obtain ⟨A, cg, rfl, -⟩ := hg
  obtain ⟨A', co, rfl, -⟩ := hoo
  have HB := Lib.hid ((Below.refl w.heap.size w).alloc (Nat.le_refl _) (.cells #[.int .i64 c.i0, .int .i64 c.i1, .slice A c.gs.length cg, .slice A' c.outs.length co] 26))
  unfold cirV
  rcases h1 : cirB c with _ | _ <;> rcases h2 : inB key 0 1000000000 with _ | _ <;> rcases h3 : offB off with _ | _
  all_goals
    have HM := Lib.hid (show keyB c key off = _ from by unfold keyB; rw [h1, h2, h3])
    go_enter Tryz.func71, Tryz.ntmps71
    go_wp2_with (first | (go_at_call 107; refine (c_spec_ciGood (H.out.below HB.out)).mono ?_; rintro e w1 ⟨rfl, hb1⟩) | (go_at_call 61; refine (c_spec_otKey).mono ?_; rintro e w' ⟨rfl, rfl⟩) | (go_at_call 134; refine (c_spec_lbOffset).mono ?_; rintro e w' ⟨rfl, rfl⟩))
    go_ret
    exact ⟨by rw [HM.out]; rfl, below_step HB.out hb1⟩
theorem three_far {w : World} {p : Nat} {v0 v1 v2 v3 : Value} (h : w.cell? ⟨p, 0, none⟩ = some v0 ∧ w.cell? ⟨p, 1, none⟩ = some v1 ∧ w.cell? ⟨p, 2, none⟩ = some v2 ∧ w.cell? ⟨p, 3, none⟩ = some v3) (n : Nat) (hn : n + 1 ≠ p) (a b d : Value) :
    (((w.setCell ⟨n + 1, 0, none⟩ a).setCell ⟨n + 1, 1, none⟩ b).setCell ⟨n + 1, 2, none⟩ d).cell? ⟨p, 0, none⟩ = some v0 ∧ (((w.setCell ⟨n + 1, 0, none⟩ a).setCell ⟨n + 1, 1, none⟩ b).setCell ⟨n + 1, 2, none⟩ d).cell? ⟨p, 1, none⟩ = some v1 ∧ (((w.setCell ⟨n + 1, 0, none⟩ a).setCell ⟨n + 1, 1, none⟩ b).setCell ⟨n + 1, 2, none⟩ d).cell? ⟨p, 2, none⟩ = some v2 ∧ (((w.setCell ⟨n + 1, 0, none⟩ a).setCell ⟨n + 1, 1, none⟩ b).setCell ⟨n + 1, 2, none⟩ d).cell? ⟨p, 3, none⟩ = some v3 := by
  have far : ∀ (W : World) (i j : Nat) (v : Value), (W.setCell ⟨n + 1, i, none⟩ v).cell? ⟨p, j, none⟩ = W.cell? ⟨p, j, none⟩ := fun W i j v => World.cell?_setCell_far W ⟨n + 1, i, none⟩ ⟨p, j, none⟩ v hn
  refine ⟨?_, ?_, ?_, ?_⟩ <;> rw [far, far, far] <;> simp only [h]
set_option maxRecDepth 100000 in
set_option maxHeartbeats 2000000 in
theorem c_impl_ZeroLabels {c : Cir} {gv ov : Value} {key off : Int} {w : World} (h : CirIn w gv ov c) : Calls Tryz.prog 33 #[cirV c gv ov, .int .i64 key, .int .i64 off] w (RetIB w (zerosM gbZ gbR c key off)) := by
  have H := Lib.hid h
  obtain ⟨hg, hoo⟩ := h
  obtain ⟨A, cg, rfl, -⟩ := hg
  obtain ⟨A', co, rfl, -⟩ := hoo
  unfold cirV
  obtain ⟨w0, hw0⟩ : ∃ W, w.alloc (.cells #[.int .i64 c.i0, .int .i64 c.i1, .slice A c.gs.length cg, .slice A' c.outs.length co] 26) = W := ⟨_, rfl⟩
  have HKC : Hid (Blk w0 w.heap.size 26 #[.int .i64 c.i0, .int .i64 c.i1, .slice A c.gs.length cg, .slice A' c.outs.length co]) := by rw [← hw0]; exact Blk.new _ _ _
  have HB : Hid (Below w.heap.size w w0) := by rw [← hw0]; exact (Below.refl _ _).alloc (Nat.le_refl _) _
  have x0 : w0.cell? ⟨w.heap.size, 0, none⟩ = some (.int .i64 c.i0) := HKC.out.cell 0
  have x1 : w0.cell? ⟨w.heap.size, 1, none⟩ = some (.int .i64 c.i1) := HKC.out.cell 1
  have x2 : w0.cell? ⟨w.heap.size, 2, none⟩ = some (.slice A c.gs.length cg) := HKC.out.cell 2
  have x3 : w0.cell? ⟨w.heap.size, 3, none⟩ = some (.slice A' c.outs.length co) := HKC.out.cell 3
  rcases hk : keyB c key off with _ | _
  · have HM := Lib.hid (show zerosM gbZ gbR c key off = none by unfold zerosM; rw [hk]; rfl)
    go_enter Tryz.func33, Tryz.ntmps33
    go_wp2_with fail
    refine (c_impl_isKeyed (H.out.below HB.out)).mono ?_
    rintro e w1 ⟨rfl, hb1⟩
    go_wp2
    go_ret2
    rw [HM.out]
    exact RetIB.no_below (below_step HB.out hb1)
  · have HM := Lib.hid (show zerosM gbZ gbR c key off = some (zrM (gbZ off) (gbR off) key off c.ins.toNat c.gs).zs by unfold zerosM; rw [hk]; rfl)
    have HV := Lib.hid (keyB_of hk)
    go_enter Tryz.func33, Tryz.ntmps33
    go_wp2_with fail
    refine (c_impl_isKeyed (H.out.below HB.out)).mono ?_
    rintro e w1 ⟨rfl, hb1⟩
    have HB1 := Lib.hid (below_step HB.out hb1)
    replace HKC := Lib.hid (HKC.out.step hb1)
    have hl1 : w.heap.size < w1.heap.size := HKC.out.lt
    have Q0 : Hid (∀ W, Below w1.heap.size w1 W → W.cell? ⟨w.heap.size, 0, none⟩ = some (.int .i64 c.i0)) := Lib.hid (belowCell (HKC.out.cell 0))
    have Q1 : Hid (∀ W, Below w1.heap.size w1 W → W.cell? ⟨w.heap.size, 1, none⟩ = some (.int .i64 c.i1)) := Lib.hid (belowCell (HKC.out.cell 1))
    have Q2 : Hid (∀ W, Below w1.heap.size w1 W → W.cell? ⟨w.heap.size, 2, none⟩ = some (.slice A c.gs.length cg)) := Lib.hid (belowCell (HKC.out.cell 2))
    have Q3 : Hid (∀ W, Below w1.heap.size w1 W → W.cell? ⟨w.heap.size, 3, none⟩ = some (.slice A' c.outs.length co)) := Lib.hid (belowCell (HKC.out.cell 3))
    have x0 := Q0.out _ (Below.refl _ _)
    have x1 := Q1.out _ (Below.refl _ _)
    have x2 := Q2.out _ (Below.refl _ _)
    have x3 := Q3.out _ (Below.refl _ _)
    clear hw0 hb1
    go_wp2_with fail
    go_region_held3 (fun W => W.cell? ⟨w.heap.size, 0, none⟩ = some (.int .i64 c.i0) ∧ W.cell? ⟨w.heap.size, 1, none⟩ = some (.int .i64 c.i1) ∧ W.cell? ⟨w.heap.size, 2, none⟩ = some (.slice A c.gs.length cg) ∧ W.cell? ⟨w.heap.size, 3, none⟩ = some (.slice A' c.outs.length co))
      (first | exact KB.out | exact KA.out | exact ⟨Q0.out _ (Below.refl _ _).drew, Q1.out _ (Below.refl _ _).drew, Q2.out _ (Below.refl _ _).drew, Q3.out _ (Below.refl _ _).drew⟩)
      (first
        | (go_at_call 90; refine (c_impl_garbledAnd).mono ?_; rintro e w2 ⟨rfl, rfl⟩; have hbA := ((Below.refl w1.heap.size w1).drew).alloc (Nat.le_refl _) (.cells #[.int .i64 off] 3); have KA := Lib.hid (And.intro (Q0.out _ hbA) (And.intro (Q1.out _ hbA) (And.intro (Q2.out _ hbA) (Q3.out _ hbA)))); have HBA := Lib.hid hbA)
        | (go_at_call 72; refine (c_zeros_garbledAnd (q := w1.heap.size) ((H.out.below HB1.out).below HBA.out) HV.out.1 HV.out.2.1 HV.out.2.2.1 (cell_new _ _ _)).mono ?_; rintro e w3 ⟨u, rv, vs, rfl, hz, hb3⟩; have hbB := below_step HBA.out hb3; have KB := Lib.hid (And.intro (Q0.out _ hbB) (And.intro (Q1.out _ hbB) (And.intro (Q2.out _ hbB) (Q3.out _ hbB)))); have HBB := Lib.hid hbB; replace hz := Lib.hid hz))
    all_goals
      go_wp2
      go_ret2
      rw [HM.out]
      exact RetIB.yes (hz.out.own.mono (Nat.le_trans (Nat.le_of_lt hl1) HBA.out.size)) (below_step HB1.out HBB.out)
set_option maxRecDepth 100000 in
set_option maxHeartbeats 2000000 in
theorem c_impl_HalfZeros {c : Cir} {gv ov : Value} {key off : Int} {w : World} (h : CirIn w gv ov c) : Calls Tryz.prog 12 #[cirV c gv ov, .int .i64 key, .int .i64 off] w (RetIB w (zerosM hgZ hgR c key off)) := by
  have H := Lib.hid h
  obtain ⟨hg, hoo⟩ := h
  obtain ⟨A, cg, rfl, -⟩ := hg
  obtain ⟨A', co, rfl, -⟩ := hoo
  unfold cirV
  obtain ⟨w0, hw0⟩ : ∃ W, w.alloc (.cells #[.int .i64 c.i0, .int .i64 c.i1, .slice A c.gs.length cg, .slice A' c.outs.length co] 26) = W := ⟨_, rfl⟩
  have HKC : Hid (Blk w0 w.heap.size 26 #[.int .i64 c.i0, .int .i64 c.i1, .slice A c.gs.length cg, .slice A' c.outs.length co]) := by rw [← hw0]; exact Blk.new _ _ _
  have HB : Hid (Below w.heap.size w w0) := by rw [← hw0]; exact (Below.refl _ _).alloc (Nat.le_refl _) _
  have x0 : w0.cell? ⟨w.heap.size, 0, none⟩ = some (.int .i64 c.i0) := HKC.out.cell 0
  have x1 : w0.cell? ⟨w.heap.size, 1, none⟩ = some (.int .i64 c.i1) := HKC.out.cell 1
  have x2 : w0.cell? ⟨w.heap.size, 2, none⟩ = some (.slice A c.gs.length cg) := HKC.out.cell 2
  have x3 : w0.cell? ⟨w.heap.size, 3, none⟩ = some (.slice A' c.outs.length co) := HKC.out.cell 3
  rcases hk : keyB c key off with _ | _
  · have HM := Lib.hid (show zerosM hgZ hgR c key off = none by unfold zerosM; rw [hk]; rfl)
    go_enter Tryz.func12, Tryz.ntmps12
    go_wp2_with fail
    refine (c_impl_isKeyed (H.out.below HB.out)).mono ?_
    rintro e w1 ⟨rfl, hb1⟩
    go_wp2
    go_ret2
    rw [HM.out]
    exact RetIB.no_below (below_step HB.out hb1)
  · have HM := Lib.hid (show zerosM hgZ hgR c key off = some (zrM (hgZ off) (hgR off) key off c.ins.toNat c.gs).zs by unfold zerosM; rw [hk]; rfl)
    have HV := Lib.hid (keyB_of hk)
    go_enter Tryz.func12, Tryz.ntmps12
    go_wp2_with fail
    refine (c_impl_isKeyed (H.out.below HB.out)).mono ?_
    rintro e w1 ⟨rfl, hb1⟩
    have HB1 := Lib.hid (below_step HB.out hb1)
    replace HKC := Lib.hid (HKC.out.step hb1)
    have hl1 : w.heap.size < w1.heap.size := HKC.out.lt
    have Q0 : Hid (∀ W, Below w1.heap.size w1 W → W.cell? ⟨w.heap.size, 0, none⟩ = some (.int .i64 c.i0)) := Lib.hid (belowCell (HKC.out.cell 0))
    have Q1 : Hid (∀ W, Below w1.heap.size w1 W → W.cell? ⟨w.heap.size, 1, none⟩ = some (.int .i64 c.i1)) := Lib.hid (belowCell (HKC.out.cell 1))
    have Q2 : Hid (∀ W, Below w1.heap.size w1 W → W.cell? ⟨w.heap.size, 2, none⟩ = some (.slice A c.gs.length cg)) := Lib.hid (belowCell (HKC.out.cell 2))
    have Q3 : Hid (∀ W, Below w1.heap.size w1 W → W.cell? ⟨w.heap.size, 3, none⟩ = some (.slice A' c.outs.length co)) := Lib.hid (belowCell (HKC.out.cell 3))
    have x0 := Q0.out _ (Below.refl _ _)
    have x1 := Q1.out _ (Below.refl _ _)
    have x2 := Q2.out _ (Below.refl _ _)
    have x3 := Q3.out _ (Below.refl _ _)
    clear hw0 hb1
    go_wp2_with fail
    go_region_held3 (fun W => W.cell? ⟨w.heap.size, 0, none⟩ = some (.int .i64 c.i0) ∧ W.cell? ⟨w.heap.size, 1, none⟩ = some (.int .i64 c.i1) ∧ W.cell? ⟨w.heap.size, 2, none⟩ = some (.slice A c.gs.length cg) ∧ W.cell? ⟨w.heap.size, 3, none⟩ = some (.slice A' c.outs.length co))
      (first | exact KB.out | exact KA.out | exact ⟨Q0.out _ (Below.refl _ _).drew, Q1.out _ (Below.refl _ _).drew, Q2.out _ (Below.refl _ _).drew, Q3.out _ (Below.refl _ _).drew⟩)
      (first
        | (go_at_call 58; refine (c_impl_halvedAnd).mono ?_; rintro e w2 ⟨rfl, rfl⟩; have hbA := ((Below.refl w1.heap.size w1).drew).alloc (Nat.le_refl _) (.cells #[.int .i64 off] 3); have KA := Lib.hid (And.intro (Q0.out _ hbA) (And.intro (Q1.out _ hbA) (And.intro (Q2.out _ hbA) (Q3.out _ hbA)))); have HBA := Lib.hid hbA)
        | (go_at_call 72; refine (c_zeros_halvedAnd (q := w1.heap.size) ((H.out.below HB1.out).below HBA.out) HV.out.1 HV.out.2.1 HV.out.2.2.1 (cell_new _ _ _)).mono ?_; rintro e w3 ⟨u, rv, vs, rfl, hz, hb3⟩; have hbB := below_step HBA.out hb3; have KB := Lib.hid (And.intro (Q0.out _ hbB) (And.intro (Q1.out _ hbB) (And.intro (Q2.out _ hbB) (Q3.out _ hbB)))); have HBB := Lib.hid hbB; replace hz := Lib.hid hz))
    all_goals
      go_wp2
      go_ret2
      rw [HM.out]
      exact RetIB.yes (hz.out.own.mono (Nat.le_trans (Nat.le_of_lt hl1) HBA.out.size)) (below_step HB1.out HBB.out)
set_option maxRecDepth 100000 in
set_option maxHeartbeats 2000000 in
theorem c_impl_GarbleCircuit {c : Cir} {gv ov : Value} {key off : Int} {w : World} (h : CirIn w gv ov c) : Calls Tryz.prog 27 #[cirV c gv ov, .int .i64 key, .int .i64 off] w (RetGbB w (tablesM gbZ gbR c key off)) := by
  have H := Lib.hid h
  obtain ⟨hg, hoo⟩ := h
  obtain ⟨A, cg, rfl, -⟩ := hg
  obtain ⟨A', co, rfl, -⟩ := hoo
  unfold cirV
  obtain ⟨w0, hw0⟩ : ∃ W, (w.alloc (.cells #[.int .i64 c.i0, .int .i64 c.i1, .slice A c.gs.length cg, .slice A' c.outs.length co] 26)).alloc (.cells #[.slice none 0 0, .slice none 0 0, .slice none 0 0] 50) = W := ⟨_, rfl⟩
  have HKC : Hid (Blk w0 w.heap.size 26 #[.int .i64 c.i0, .int .i64 c.i1, .slice A c.gs.length cg, .slice A' c.outs.length co]) := by rw [← hw0]; exact (Blk.new _ _ _).alloc _
  have HR : Hid (Blk w0 (w.heap.size + 1) 50 #[.slice none 0 0, .slice none 0 0, .slice none 0 0]) := by rw [← hw0]; have := Blk.new (w.alloc (.cells #[.int .i64 c.i0, .int .i64 c.i1, .slice A c.gs.length cg, .slice A' c.outs.length co] 26)) 50 #[.slice none 0 0, .slice none 0 0, .slice none 0 0]; simp only [World.size_alloc] at this; exact this
  have HB : Hid (Below w.heap.size w w0) := by rw [← hw0]; exact ((Below.refl _ _).alloc (Nat.le_refl _) _).alloc (by simp) _
  have x0 : w0.cell? ⟨w.heap.size, 0, none⟩ = some (.int .i64 c.i0) := HKC.out.cell 0
  have x1 : w0.cell? ⟨w.heap.size, 1, none⟩ = some (.int .i64 c.i1) := HKC.out.cell 1
  have x2 : w0.cell? ⟨w.heap.size, 2, none⟩ = some (.slice A c.gs.length cg) := HKC.out.cell 2
  have x3 : w0.cell? ⟨w.heap.size, 3, none⟩ = some (.slice A' c.outs.length co) := HKC.out.cell 3
  rcases hk : keyB c key off with _ | _
  · have HM := Lib.hid (show tablesM gbZ gbR c key off = none by unfold tablesM; rw [hk]; rfl)
    go_enter Tryz.func27, Tryz.ntmps27
    go_wp2_with fail
    refine (c_impl_isKeyed (H.out.below HB.out)).mono ?_
    rintro e w1 ⟨rfl, hb1⟩
    have hR := HR.out.step hb1
    have r0 : w1.cell? ⟨w.heap.size + 1, 0, none⟩ = some (.slice none 0 0) := hR.cell 0
    have r1 : w1.cell? ⟨w.heap.size + 1, 1, none⟩ = some (.slice none 0 0) := hR.cell 1
    have r2 : w1.cell? ⟨w.heap.size + 1, 2, none⟩ = some (.slice none 0 0) := hR.cell 2
    have rf0 := hR.free 0
    have rf1 := hR.free 1
    have rf2 := hR.free 2
    have hRl := hR.lt
    clear hR
    go_wp2
    refine bodyPost_ret (v := .tuple #[gbV (.slice none 0 0) (.slice none 0 0) (.slice none 0 0), .bool false]) (by simp [results, Tryz.results27, go_sem, gbV, r0, r1, r2]) rfl ?_
    rw [HM.out]
    exact RetGbB.no ((((below_step HB.out hb1).setCell (p := ⟨w.heap.size + 1, 0, none⟩) (by simp) _).setCell (p := ⟨w.heap.size + 1, 1, none⟩) (by simp) _).setCell (p := ⟨w.heap.size + 1, 2, none⟩) (by simp) _)
  · have HM := Lib.hid (show tablesM gbZ gbR c key off = some (tabM (gbZ off) (gbR off) key off c) by unfold tablesM; rw [hk]; rfl)
    have HV := Lib.hid (keyB_of hk)
    go_enter Tryz.func27, Tryz.ntmps27
    go_wp2_with fail
    refine (c_impl_isKeyed (H.out.below HB.out)).mono ?_
    rintro e w1 ⟨rfl, hb1⟩
    have HB1 := Lib.hid (below_step HB.out hb1)
    replace HKC := Lib.hid (HKC.out.step hb1)
    have hl1 : w.heap.size < w1.heap.size := HKC.out.lt
    have Q0 : Hid (∀ W, Below w1.heap.size w1 W → W.cell? ⟨w.heap.size, 0, none⟩ = some (.int .i64 c.i0)) := Lib.hid (belowCell (HKC.out.cell 0))
    have Q1 : Hid (∀ W, Below w1.heap.size w1 W → W.cell? ⟨w.heap.size, 1, none⟩ = some (.int .i64 c.i1)) := Lib.hid (belowCell (HKC.out.cell 1))
    have Q2 : Hid (∀ W, Below w1.heap.size w1 W → W.cell? ⟨w.heap.size, 2, none⟩ = some (.slice A c.gs.length cg)) := Lib.hid (belowCell (HKC.out.cell 2))
    have Q3 : Hid (∀ W, Below w1.heap.size w1 W → W.cell? ⟨w.heap.size, 3, none⟩ = some (.slice A' c.outs.length co)) := Lib.hid (belowCell (HKC.out.cell 3))
    have x0 := Q0.out _ (Below.refl _ _)
    have x1 := Q1.out _ (Below.refl _ _)
    have x2 := Q2.out _ (Below.refl _ _)
    have x3 := Q3.out _ (Below.refl _ _)
    have hR := HR.out.step hb1
    clear hw0 hb1
    have HR1 := Lib.hid hR
    have hlow := HR1.out.lt
    clear hR
    go_wp2_with fail
    go_region_held3 (fun W => W.cell? ⟨w.heap.size, 0, none⟩ = some (.int .i64 c.i0) ∧ W.cell? ⟨w.heap.size, 1, none⟩ = some (.int .i64 c.i1) ∧ W.cell? ⟨w.heap.size, 2, none⟩ = some (.slice A c.gs.length cg) ∧ W.cell? ⟨w.heap.size, 3, none⟩ = some (.slice A' c.outs.length co))
      (first | exact KS.out _ _ _ | exact KB.out | exact KA.out | exact ⟨Q0.out _ (Below.refl _ _).drew, Q1.out _ (Below.refl _ _).drew, Q2.out _ (Below.refl _ _).drew, Q3.out _ (Below.refl _ _).drew⟩)
      (first
        | (go_at_call 90; refine (c_impl_garbledAnd).mono ?_; rintro e w2 ⟨rfl, rfl⟩; have hbA := ((Below.refl w1.heap.size w1).drew).alloc (Nat.le_refl _) (.cells #[.int .i64 off] 3); have KA := Lib.hid (And.intro (Q0.out _ hbA) (And.intro (Q1.out _ hbA) (And.intro (Q2.out _ hbA) (Q3.out _ hbA)))); have HBA := Lib.hid hbA)
        | (go_at_call 57; refine (c_tables_garbledAnd (q := w1.heap.size) ((H.out.below HB1.out).below HBA.out) HV.out.1 HV.out.2.1 HV.out.2.2.1 (cell_new _ _ _)).mono ?_; rintro e w3 ⟨rv, nv, cv, vs, rfl, hz, hb3⟩; obtain ⟨Ar, cr, rfl, -⟩ := hz.rows.rowsIn.form; obtain ⟨Ao, co', rfl, -⟩ := hz.ones.ints; obtain ⟨Ac, cc, rfl, -⟩ := hz.cols.ints; have hbB := below_step HBA.out hb3; have KB := Lib.hid (And.intro (Q0.out _ hbB) (And.intro (Q1.out _ hbB) (And.intro (Q2.out _ hbB) (Q3.out _ hbB)))); have HBB := Lib.hid hbB; replace hz := Lib.hid hz; have hR := HR1.out.step hbB; have r0 : w3.cell? ⟨w.heap.size + 1, 0, none⟩ = some (.slice none 0 0) := hR.cell 0; have r1 : w3.cell? ⟨w.heap.size + 1, 1, none⟩ = some (.slice none 0 0) := hR.cell 1; have r2 : w3.cell? ⟨w.heap.size + 1, 2, none⟩ = some (.slice none 0 0) := hR.cell 2; have rf0 := hR.free 0; have rf1 := hR.free 1; have rf2 := hR.free 2; have hRl := hR.lt; clear hR; have KS := Lib.hid (fun (a b d : Value) => three_far KB.out w.heap.size (by omega) a b d); unfold gbV))
    all_goals
      go_wp2
      refine bodyPost_ret (v := .tuple #[gbV (.slice Ar (tabM (gbZ off) (gbR off) key off c).rows.length cr) (.slice Ao (tabM (gbZ off) (gbR off) key off c).ones.length co') (.slice Ac (tabM (gbZ off) (gbR off) key off c).cols.length cc), .bool true]) (by simp [results, Tryz.results27, go_sem, gbV, r0, r1, r2]) rfl ⟨_, _, _, vs, by rw [HM.out]; rfl, ?_, ?_⟩
      · rw [HM.out]
        exact (((hz.out.setLow (by have := HBA.out.size; omega) 0 _).setLow (by have := HBA.out.size; omega) 1 _).setLow (by have := HBA.out.size; omega) 2 _).mono (by have := HBA.out.size; omega)
      · exact (((below_step HB1.out HBB.out).setCell (p := ⟨w.heap.size + 1, 0, none⟩) (by simp) _).setCell (p := ⟨w.heap.size + 1, 1, none⟩) (by simp) _).setCell (p := ⟨w.heap.size + 1, 2, none⟩) (by simp) _
set_option maxRecDepth 100000 in
set_option maxHeartbeats 2000000 in
theorem c_impl_HalveCircuit {c : Cir} {gv ov : Value} {key off : Int} {w : World} (h : CirIn w gv ov c) : Calls Tryz.prog 10 #[cirV c gv ov, .int .i64 key, .int .i64 off] w (RetGbB w (tablesM hgZ hgR c key off)) := by
  have H := Lib.hid h
  obtain ⟨hg, hoo⟩ := h
  obtain ⟨A, cg, rfl, -⟩ := hg
  obtain ⟨A', co, rfl, -⟩ := hoo
  unfold cirV
  obtain ⟨w0, hw0⟩ : ∃ W, (w.alloc (.cells #[.int .i64 c.i0, .int .i64 c.i1, .slice A c.gs.length cg, .slice A' c.outs.length co] 26)).alloc (.cells #[.slice none 0 0, .slice none 0 0, .slice none 0 0] 35) = W := ⟨_, rfl⟩
  have HKC : Hid (Blk w0 w.heap.size 26 #[.int .i64 c.i0, .int .i64 c.i1, .slice A c.gs.length cg, .slice A' c.outs.length co]) := by rw [← hw0]; exact (Blk.new _ _ _).alloc _
  have HR : Hid (Blk w0 (w.heap.size + 1) 35 #[.slice none 0 0, .slice none 0 0, .slice none 0 0]) := by rw [← hw0]; have := Blk.new (w.alloc (.cells #[.int .i64 c.i0, .int .i64 c.i1, .slice A c.gs.length cg, .slice A' c.outs.length co] 26)) 35 #[.slice none 0 0, .slice none 0 0, .slice none 0 0]; simp only [World.size_alloc] at this; exact this
  have HB : Hid (Below w.heap.size w w0) := by rw [← hw0]; exact ((Below.refl _ _).alloc (Nat.le_refl _) _).alloc (by simp) _
  have x0 : w0.cell? ⟨w.heap.size, 0, none⟩ = some (.int .i64 c.i0) := HKC.out.cell 0
  have x1 : w0.cell? ⟨w.heap.size, 1, none⟩ = some (.int .i64 c.i1) := HKC.out.cell 1
  have x2 : w0.cell? ⟨w.heap.size, 2, none⟩ = some (.slice A c.gs.length cg) := HKC.out.cell 2
  have x3 : w0.cell? ⟨w.heap.size, 3, none⟩ = some (.slice A' c.outs.length co) := HKC.out.cell 3
  rcases hk : keyB c key off with _ | _
  · have HM := Lib.hid (show tablesM hgZ hgR c key off = none by unfold tablesM; rw [hk]; rfl)
    go_enter Tryz.func10, Tryz.ntmps10
    go_wp2_with fail
    refine (c_impl_isKeyed (H.out.below HB.out)).mono ?_
    rintro e w1 ⟨rfl, hb1⟩
    have hR := HR.out.step hb1
    have r0 : w1.cell? ⟨w.heap.size + 1, 0, none⟩ = some (.slice none 0 0) := hR.cell 0
    have r1 : w1.cell? ⟨w.heap.size + 1, 1, none⟩ = some (.slice none 0 0) := hR.cell 1
    have r2 : w1.cell? ⟨w.heap.size + 1, 2, none⟩ = some (.slice none 0 0) := hR.cell 2
    have rf0 := hR.free 0
    have rf1 := hR.free 1
    have rf2 := hR.free 2
    have hRl := hR.lt
    clear hR
    go_wp2
    refine bodyPost_ret (v := .tuple #[gbV (.slice none 0 0) (.slice none 0 0) (.slice none 0 0), .bool false]) (by simp [results, Tryz.results10, go_sem, gbV, r0, r1, r2]) rfl ?_
    rw [HM.out]
    exact RetGbB.no ((((below_step HB.out hb1).setCell (p := ⟨w.heap.size + 1, 0, none⟩) (by simp) _).setCell (p := ⟨w.heap.size + 1, 1, none⟩) (by simp) _).setCell (p := ⟨w.heap.size + 1, 2, none⟩) (by simp) _)
  · have HM := Lib.hid (show tablesM hgZ hgR c key off = some (tabM (hgZ off) (hgR off) key off c) by unfold tablesM; rw [hk]; rfl)
    have HV := Lib.hid (keyB_of hk)
    go_enter Tryz.func10, Tryz.ntmps10
    go_wp2_with fail
    refine (c_impl_isKeyed (H.out.below HB.out)).mono ?_
    rintro e w1 ⟨rfl, hb1⟩
    have HB1 := Lib.hid (below_step HB.out hb1)
    replace HKC := Lib.hid (HKC.out.step hb1)
    have hl1 : w.heap.size < w1.heap.size := HKC.out.lt
    have Q0 : Hid (∀ W, Below w1.heap.size w1 W → W.cell? ⟨w.heap.size, 0, none⟩ = some (.int .i64 c.i0)) := Lib.hid (belowCell (HKC.out.cell 0))
    have Q1 : Hid (∀ W, Below w1.heap.size w1 W → W.cell? ⟨w.heap.size, 1, none⟩ = some (.int .i64 c.i1)) := Lib.hid (belowCell (HKC.out.cell 1))
    have Q2 : Hid (∀ W, Below w1.heap.size w1 W → W.cell? ⟨w.heap.size, 2, none⟩ = some (.slice A c.gs.length cg)) := Lib.hid (belowCell (HKC.out.cell 2))
    have Q3 : Hid (∀ W, Below w1.heap.size w1 W → W.cell? ⟨w.heap.size, 3, none⟩ = some (.slice A' c.outs.length co)) := Lib.hid (belowCell (HKC.out.cell 3))
    have x0 := Q0.out _ (Below.refl _ _)
    have x1 := Q1.out _ (Below.refl _ _)
    have x2 := Q2.out _ (Below.refl _ _)
    have x3 := Q3.out _ (Below.refl _ _)
    have hR := HR.out.step hb1
    clear hw0 hb1
    have HR1 := Lib.hid hR
    have hlow := HR1.out.lt
    clear hR
    go_wp2_with fail
    go_region_held3 (fun W => W.cell? ⟨w.heap.size, 0, none⟩ = some (.int .i64 c.i0) ∧ W.cell? ⟨w.heap.size, 1, none⟩ = some (.int .i64 c.i1) ∧ W.cell? ⟨w.heap.size, 2, none⟩ = some (.slice A c.gs.length cg) ∧ W.cell? ⟨w.heap.size, 3, none⟩ = some (.slice A' c.outs.length co))
      (first | exact KS.out _ _ _ | exact KB.out | exact KA.out | exact ⟨Q0.out _ (Below.refl _ _).drew, Q1.out _ (Below.refl _ _).drew, Q2.out _ (Below.refl _ _).drew, Q3.out _ (Below.refl _ _).drew⟩)
      (first
        | (go_at_call 58; refine (c_impl_halvedAnd).mono ?_; rintro e w2 ⟨rfl, rfl⟩; have hbA := ((Below.refl w1.heap.size w1).drew).alloc (Nat.le_refl _) (.cells #[.int .i64 off] 3); have KA := Lib.hid (And.intro (Q0.out _ hbA) (And.intro (Q1.out _ hbA) (And.intro (Q2.out _ hbA) (Q3.out _ hbA)))); have HBA := Lib.hid hbA)
        | (go_at_call 57; refine (c_tables_halvedAnd (q := w1.heap.size) ((H.out.below HB1.out).below HBA.out) HV.out.1 HV.out.2.1 HV.out.2.2.1 (cell_new _ _ _)).mono ?_; rintro e w3 ⟨rv, nv, cv, vs, rfl, hz, hb3⟩; obtain ⟨Ar, cr, rfl, -⟩ := hz.rows.rowsIn.form; obtain ⟨Ao, co', rfl, -⟩ := hz.ones.ints; obtain ⟨Ac, cc, rfl, -⟩ := hz.cols.ints; have hbB := below_step HBA.out hb3; have KB := Lib.hid (And.intro (Q0.out _ hbB) (And.intro (Q1.out _ hbB) (And.intro (Q2.out _ hbB) (Q3.out _ hbB)))); have HBB := Lib.hid hbB; replace hz := Lib.hid hz; have hR := HR1.out.step hbB; have r0 : w3.cell? ⟨w.heap.size + 1, 0, none⟩ = some (.slice none 0 0) := hR.cell 0; have r1 : w3.cell? ⟨w.heap.size + 1, 1, none⟩ = some (.slice none 0 0) := hR.cell 1; have r2 : w3.cell? ⟨w.heap.size + 1, 2, none⟩ = some (.slice none 0 0) := hR.cell 2; have rf0 := hR.free 0; have rf1 := hR.free 1; have rf2 := hR.free 2; have hRl := hR.lt; clear hR; have KS := Lib.hid (fun (a b d : Value) => three_far KB.out w.heap.size (by omega) a b d); unfold gbV))
    all_goals
      go_wp2
      refine bodyPost_ret (v := .tuple #[gbV (.slice Ar (tabM (hgZ off) (hgR off) key off c).rows.length cr) (.slice Ao (tabM (hgZ off) (hgR off) key off c).ones.length co') (.slice Ac (tabM (hgZ off) (hgR off) key off c).cols.length cc), .bool true]) (by simp [results, Tryz.results10, go_sem, gbV, r0, r1, r2]) rfl ⟨_, _, _, vs, by rw [HM.out]; rfl, ?_, ?_⟩
      · rw [HM.out]
        exact (((hz.out.setLow (by have := HBA.out.size; omega) 0 _).setLow (by have := HBA.out.size; omega) 1 _).setLow (by have := HBA.out.size; omega) 2 _).mono (by have := HBA.out.size; omega)
      · exact (((below_step HB1.out HBB.out).setCell (p := ⟨w.heap.size + 1, 0, none⟩) (by simp) _).setCell (p := ⟨w.heap.size + 1, 1, none⟩) (by simp) _).setCell (p := ⟨w.heap.size + 1, 2, none⟩) (by simp) _
end Go.Proofs.YtejeppjmlgfiaaaGreat

/- Contracts of the reference's exported zero labels and tables. No condition. -/
namespace Go.Proofs.YtejeppjmlgfiaaaGreat
open Go.RowKit
set_option linter.unusedVariables false

set_option maxRecDepth 100000 in
set_option maxHeartbeats 2000000 in
theorem c_spec_ZeroLabels {c : Cir} {gv ov : Value} {key off : Int} {w : World} (h : CirIn w gv ov c) : Calls Tryz.prog 34 #[cirV c gv ov, .int .i64 key, .int .i64 off] w (RetIB w (zerosM gbZ gbR c key off)) := by
  have H := Lib.hid h
  obtain ⟨hg, hoo⟩ := h
  obtain ⟨A, cg, rfl, -⟩ := hg
  obtain ⟨A', co, rfl, -⟩ := hoo
  unfold cirV
  obtain ⟨w0, hw0⟩ : ∃ W, w.alloc (.cells #[.int .i64 c.i0, .int .i64 c.i1, .slice A c.gs.length cg, .slice A' c.outs.length co] 26) = W := ⟨_, rfl⟩
  have HKC : Hid (Blk w0 w.heap.size 26 #[.int .i64 c.i0, .int .i64 c.i1, .slice A c.gs.length cg, .slice A' c.outs.length co]) := by rw [← hw0]; exact Blk.new _ _ _
  have HB : Hid (Below w.heap.size w w0) := by rw [← hw0]; exact (Below.refl _ _).alloc (Nat.le_refl _) _
  have x0 : w0.cell? ⟨w.heap.size, 0, none⟩ = some (.int .i64 c.i0) := HKC.out.cell 0
  have x1 : w0.cell? ⟨w.heap.size, 1, none⟩ = some (.int .i64 c.i1) := HKC.out.cell 1
  have x2 : w0.cell? ⟨w.heap.size, 2, none⟩ = some (.slice A c.gs.length cg) := HKC.out.cell 2
  have x3 : w0.cell? ⟨w.heap.size, 3, none⟩ = some (.slice A' c.outs.length co) := HKC.out.cell 3
  rcases hk : keyB c key off with _ | _
  · have HM := Lib.hid (show zerosM gbZ gbR c key off = none by unfold zerosM; rw [hk]; rfl)
    go_enter Tryz.func34, Tryz.ntmps34
    go_wp2_with fail
    refine (c_spec_gbKeys (H.out.below HB.out)).mono ?_
    rintro e w1 ⟨rfl, hb1⟩
    go_wp2
    go_ret2
    rw [HM.out]
    exact RetIB.no_below (below_step HB.out hb1)
  · have HM := Lib.hid (show zerosM gbZ gbR c key off = some (zrM (gbZ off) (gbR off) key off c.ins.toNat c.gs).zs by unfold zerosM; rw [hk]; rfl)
    have HV := Lib.hid (keyB_of hk)
    go_enter Tryz.func34, Tryz.ntmps34
    go_wp2_with fail
    refine (c_spec_gbKeys (H.out.below HB.out)).mono ?_
    rintro e w1 ⟨rfl, hb1⟩
    have HB1 := Lib.hid (below_step HB.out hb1)
    replace HKC := Lib.hid (HKC.out.step hb1)
    have x0 : w1.cell? ⟨w.heap.size, 0, none⟩ = some (.int .i64 c.i0) := HKC.out.cell 0
    have x1 : w1.cell? ⟨w.heap.size, 1, none⟩ = some (.int .i64 c.i1) := HKC.out.cell 1
    have x2 : w1.cell? ⟨w.heap.size, 2, none⟩ = some (.slice A c.gs.length cg) := HKC.out.cell 2
    have x3 : w1.cell? ⟨w.heap.size, 3, none⟩ = some (.slice A' c.outs.length co) := HKC.out.cell 3
    clear hw0 hb1
    go_wp2_with fail
    refine (c_spec_gbZeros (H.out.below HB1.out) HV.out.1 HV.out.2.1 HV.out.2.2.1).mono ?_
    rintro e w2 ⟨u, rfl, hu, hb2⟩
    go_wp2
    go_ret2
    rw [HM.out]
    exact RetIB.yes (hu.mono HB1.out.size) (below_step HB1.out hb2)
set_option maxRecDepth 100000 in
set_option maxHeartbeats 2000000 in
theorem c_spec_HalfZeros {c : Cir} {gv ov : Value} {key off : Int} {w : World} (h : CirIn w gv ov c) : Calls Tryz.prog 13 #[cirV c gv ov, .int .i64 key, .int .i64 off] w (RetIB w (zerosM hgZ hgR c key off)) := by
  have H := Lib.hid h
  obtain ⟨hg, hoo⟩ := h
  obtain ⟨A, cg, rfl, -⟩ := hg
  obtain ⟨A', co, rfl, -⟩ := hoo
  unfold cirV
  obtain ⟨w0, hw0⟩ : ∃ W, w.alloc (.cells #[.int .i64 c.i0, .int .i64 c.i1, .slice A c.gs.length cg, .slice A' c.outs.length co] 26) = W := ⟨_, rfl⟩
  have HKC : Hid (Blk w0 w.heap.size 26 #[.int .i64 c.i0, .int .i64 c.i1, .slice A c.gs.length cg, .slice A' c.outs.length co]) := by rw [← hw0]; exact Blk.new _ _ _
  have HB : Hid (Below w.heap.size w w0) := by rw [← hw0]; exact (Below.refl _ _).alloc (Nat.le_refl _) _
  have x0 : w0.cell? ⟨w.heap.size, 0, none⟩ = some (.int .i64 c.i0) := HKC.out.cell 0
  have x1 : w0.cell? ⟨w.heap.size, 1, none⟩ = some (.int .i64 c.i1) := HKC.out.cell 1
  have x2 : w0.cell? ⟨w.heap.size, 2, none⟩ = some (.slice A c.gs.length cg) := HKC.out.cell 2
  have x3 : w0.cell? ⟨w.heap.size, 3, none⟩ = some (.slice A' c.outs.length co) := HKC.out.cell 3
  rcases hk : keyB c key off with _ | _
  · have HM := Lib.hid (show zerosM hgZ hgR c key off = none by unfold zerosM; rw [hk]; rfl)
    go_enter Tryz.func13, Tryz.ntmps13
    go_wp2_with fail
    refine (c_spec_hgAsked (H.out.below HB.out)).mono ?_
    rintro e w1 ⟨rfl, hb1⟩
    go_wp2
    go_ret2
    rw [HM.out]
    exact RetIB.no_below (below_step HB.out hb1)
  · have HM := Lib.hid (show zerosM hgZ hgR c key off = some (zrM (hgZ off) (hgR off) key off c.ins.toNat c.gs).zs by unfold zerosM; rw [hk]; rfl)
    have HV := Lib.hid (keyB_of hk)
    go_enter Tryz.func13, Tryz.ntmps13
    go_wp2_with fail
    refine (c_spec_hgAsked (H.out.below HB.out)).mono ?_
    rintro e w1 ⟨rfl, hb1⟩
    have HB1 := Lib.hid (below_step HB.out hb1)
    replace HKC := Lib.hid (HKC.out.step hb1)
    have x0 : w1.cell? ⟨w.heap.size, 0, none⟩ = some (.int .i64 c.i0) := HKC.out.cell 0
    have x1 : w1.cell? ⟨w.heap.size, 1, none⟩ = some (.int .i64 c.i1) := HKC.out.cell 1
    have x2 : w1.cell? ⟨w.heap.size, 2, none⟩ = some (.slice A c.gs.length cg) := HKC.out.cell 2
    have x3 : w1.cell? ⟨w.heap.size, 3, none⟩ = some (.slice A' c.outs.length co) := HKC.out.cell 3
    clear hw0 hb1
    go_wp2_with fail
    refine (c_spec_hgMake (H.out.below HB1.out) HV.out.1 HV.out.2.1 HV.out.2.2.1).mono ?_
    rintro e w2 ⟨u, rv, nv, cv, vs, rfl, hu, hz, hb2⟩
    obtain ⟨Ar, cr, rfl, -⟩ := hz.rows.rowsIn.form
    obtain ⟨Ao, co', rfl, -⟩ := hz.ones.ints
    obtain ⟨Ac, cc, rfl, -⟩ := hz.cols.ints
    have HU := Lib.hid (hu.mono HB1.out.size)
    have HB2 := Lib.hid (below_step HB1.out hb2)
    clear hu hz hb2
    unfold gbV
    go_wp2
    go_ret2
    rw [HM.out]
    exact RetIB.yes (HU.out.alloc _) (HB2.out.alloc HB2.out.size _)
set_option maxRecDepth 100000 in
set_option maxHeartbeats 2000000 in
theorem c_spec_GarbleCircuit {c : Cir} {gv ov : Value} {key off : Int} {w : World} (h : CirIn w gv ov c) : Calls Tryz.prog 32 #[cirV c gv ov, .int .i64 key, .int .i64 off] w (RetGbB w (tablesM gbZ gbR c key off)) := by
  have H := Lib.hid h
  obtain ⟨hg, hoo⟩ := h
  obtain ⟨A, cg, rfl, -⟩ := hg
  obtain ⟨A', co, rfl, -⟩ := hoo
  unfold cirV
  obtain ⟨w0, hw0⟩ : ∃ W, (w.alloc (.cells #[.int .i64 c.i0, .int .i64 c.i1, .slice A c.gs.length cg, .slice A' c.outs.length co] 26)).alloc (.cells #[.slice none 0 0, .slice none 0 0, .slice none 0 0] 50) = W := ⟨_, rfl⟩
  have HKC : Hid (Blk w0 w.heap.size 26 #[.int .i64 c.i0, .int .i64 c.i1, .slice A c.gs.length cg, .slice A' c.outs.length co]) := by rw [← hw0]; exact (Blk.new _ _ _).alloc _
  have HR : Hid (Blk w0 (w.heap.size + 1) 50 #[.slice none 0 0, .slice none 0 0, .slice none 0 0]) := by rw [← hw0]; have := Blk.new (w.alloc (.cells #[.int .i64 c.i0, .int .i64 c.i1, .slice A c.gs.length cg, .slice A' c.outs.length co] 26)) 50 #[.slice none 0 0, .slice none 0 0, .slice none 0 0]; simp only [World.size_alloc] at this; exact this
  have HB : Hid (Below w.heap.size w w0) := by rw [← hw0]; exact ((Below.refl _ _).alloc (Nat.le_refl _) _).alloc (by simp) _
  have x0 : w0.cell? ⟨w.heap.size, 0, none⟩ = some (.int .i64 c.i0) := HKC.out.cell 0
  have x1 : w0.cell? ⟨w.heap.size, 1, none⟩ = some (.int .i64 c.i1) := HKC.out.cell 1
  have x2 : w0.cell? ⟨w.heap.size, 2, none⟩ = some (.slice A c.gs.length cg) := HKC.out.cell 2
  have x3 : w0.cell? ⟨w.heap.size, 3, none⟩ = some (.slice A' c.outs.length co) := HKC.out.cell 3
  rcases hk : keyB c key off with _ | _
  · have HM := Lib.hid (show tablesM gbZ gbR c key off = none by unfold tablesM; rw [hk]; rfl)
    go_enter Tryz.func32, Tryz.ntmps32
    go_wp2_with fail
    refine (c_spec_gbKeys (H.out.below HB.out)).mono ?_
    rintro e w1 ⟨rfl, hb1⟩
    have hR := HR.out.step hb1
    have r0 : w1.cell? ⟨w.heap.size + 1, 0, none⟩ = some (.slice none 0 0) := hR.cell 0
    have r1 : w1.cell? ⟨w.heap.size + 1, 1, none⟩ = some (.slice none 0 0) := hR.cell 1
    have r2 : w1.cell? ⟨w.heap.size + 1, 2, none⟩ = some (.slice none 0 0) := hR.cell 2
    have rf0 := hR.free 0
    have rf1 := hR.free 1
    have rf2 := hR.free 2
    have hRl := hR.lt
    clear hR
    go_wp2
    refine bodyPost_ret (v := .tuple #[gbV (.slice none 0 0) (.slice none 0 0) (.slice none 0 0), .bool false]) (by simp [results, Tryz.results32, go_sem, gbV, r0, r1, r2]) rfl ?_
    rw [HM.out]
    exact RetGbB.no ((((below_step HB.out hb1).setCell (p := ⟨w.heap.size + 1, 0, none⟩) (by simp) _).setCell (p := ⟨w.heap.size + 1, 1, none⟩) (by simp) _).setCell (p := ⟨w.heap.size + 1, 2, none⟩) (by simp) _)
  · have HM := Lib.hid (show tablesM gbZ gbR c key off = some (tabM (gbZ off) (gbR off) key off c) by unfold tablesM; rw [hk]; rfl)
    have HV := Lib.hid (keyB_of hk)
    go_enter Tryz.func32, Tryz.ntmps32
    go_wp2_with fail
    refine (c_spec_gbKeys (H.out.below HB.out)).mono ?_
    rintro e w1 ⟨rfl, hb1⟩
    have HB1 := Lib.hid (below_step HB.out hb1)
    replace HKC := Lib.hid (HKC.out.step hb1)
    have x0 : w1.cell? ⟨w.heap.size, 0, none⟩ = some (.int .i64 c.i0) := HKC.out.cell 0
    have x1 : w1.cell? ⟨w.heap.size, 1, none⟩ = some (.int .i64 c.i1) := HKC.out.cell 1
    have x2 : w1.cell? ⟨w.heap.size, 2, none⟩ = some (.slice A c.gs.length cg) := HKC.out.cell 2
    have x3 : w1.cell? ⟨w.heap.size, 3, none⟩ = some (.slice A' c.outs.length co) := HKC.out.cell 3
    clear hw0
    go_wp2_with fail
    refine (c_spec_gbMake (H.out.below HB1.out) HV.out.1 HV.out.2.1 HV.out.2.2.1).mono ?_
    rintro e w2 ⟨rv, nv, cv, vs, rfl, hz, hb2⟩
    obtain ⟨Ar, cr, rfl, -⟩ := hz.rows.rowsIn.form
    obtain ⟨Ao, co', rfl, -⟩ := hz.ones.ints
    obtain ⟨Ac, cc, rfl, -⟩ := hz.cols.ints
    have HB2 := Lib.hid (below_step HB1.out hb2)
    have hR := (HR.out.step hb1).step hb2
    have r0 : w2.cell? ⟨w.heap.size + 1, 0, none⟩ = some (.slice none 0 0) := hR.cell 0
    have r1 : w2.cell? ⟨w.heap.size + 1, 1, none⟩ = some (.slice none 0 0) := hR.cell 1
    have r2 : w2.cell? ⟨w.heap.size + 1, 2, none⟩ = some (.slice none 0 0) := hR.cell 2
    have rf0 := hR.free 0
    have rf1 := hR.free 1
    have rf2 := hR.free 2
    have hRl := hR.lt
    have hlow : w.heap.size + 1 < w1.heap.size := (HR.out.step hb1).lt
    have HBX := HB2
    replace hz := Lib.hid hz
    clear hb1 hb2 hR
    unfold gbV
    go_wp2
    refine bodyPost_ret (v := .tuple #[gbV (.slice Ar (tabM (gbZ off) (gbR off) key off c).rows.length cr) (.slice Ao (tabM (gbZ off) (gbR off) key off c).ones.length co') (.slice Ac (tabM (gbZ off) (gbR off) key off c).cols.length cc), .bool true]) (by simp [results, Tryz.results32, go_sem, gbV, r0, r1, r2]) rfl ⟨_, _, _, vs, by rw [HM.out]; rfl, ?_, ?_⟩
    · rw [HM.out]
      exact (((hz.out.setLow hlow 0 _).setLow hlow 1 _).setLow hlow 2 _).mono HB1.out.size
    · exact ((HBX.out.setCell (p := ⟨w.heap.size + 1, 0, none⟩) (by simp) _).setCell (p := ⟨w.heap.size + 1, 1, none⟩) (by simp) _).setCell (p := ⟨w.heap.size + 1, 2, none⟩) (by simp) _
set_option maxRecDepth 100000 in
set_option maxHeartbeats 2000000 in
theorem c_spec_HalveCircuit {c : Cir} {gv ov : Value} {key off : Int} {w : World} (h : CirIn w gv ov c) : Calls Tryz.prog 11 #[cirV c gv ov, .int .i64 key, .int .i64 off] w (RetGbB w (tablesM hgZ hgR c key off)) := by
  have H := Lib.hid h
  obtain ⟨hg, hoo⟩ := h
  obtain ⟨A, cg, rfl, -⟩ := hg
  obtain ⟨A', co, rfl, -⟩ := hoo
  unfold cirV
  obtain ⟨w0, hw0⟩ : ∃ W, (w.alloc (.cells #[.int .i64 c.i0, .int .i64 c.i1, .slice A c.gs.length cg, .slice A' c.outs.length co] 26)).alloc (.cells #[.slice none 0 0, .slice none 0 0, .slice none 0 0] 35) = W := ⟨_, rfl⟩
  have HKC : Hid (Blk w0 w.heap.size 26 #[.int .i64 c.i0, .int .i64 c.i1, .slice A c.gs.length cg, .slice A' c.outs.length co]) := by rw [← hw0]; exact (Blk.new _ _ _).alloc _
  have HR : Hid (Blk w0 (w.heap.size + 1) 35 #[.slice none 0 0, .slice none 0 0, .slice none 0 0]) := by rw [← hw0]; have := Blk.new (w.alloc (.cells #[.int .i64 c.i0, .int .i64 c.i1, .slice A c.gs.length cg, .slice A' c.outs.length co] 26)) 35 #[.slice none 0 0, .slice none 0 0, .slice none 0 0]; simp only [World.size_alloc] at this; exact this
  have HB : Hid (Below w.heap.size w w0) := by rw [← hw0]; exact ((Below.refl _ _).alloc (Nat.le_refl _) _).alloc (by simp) _
  have x0 : w0.cell? ⟨w.heap.size, 0, none⟩ = some (.int .i64 c.i0) := HKC.out.cell 0
  have x1 : w0.cell? ⟨w.heap.size, 1, none⟩ = some (.int .i64 c.i1) := HKC.out.cell 1
  have x2 : w0.cell? ⟨w.heap.size, 2, none⟩ = some (.slice A c.gs.length cg) := HKC.out.cell 2
  have x3 : w0.cell? ⟨w.heap.size, 3, none⟩ = some (.slice A' c.outs.length co) := HKC.out.cell 3
  rcases hk : keyB c key off with _ | _
  · have HM := Lib.hid (show tablesM hgZ hgR c key off = none by unfold tablesM; rw [hk]; rfl)
    go_enter Tryz.func11, Tryz.ntmps11
    go_wp2_with fail
    refine (c_spec_hgAsked (H.out.below HB.out)).mono ?_
    rintro e w1 ⟨rfl, hb1⟩
    have hR := HR.out.step hb1
    have r0 : w1.cell? ⟨w.heap.size + 1, 0, none⟩ = some (.slice none 0 0) := hR.cell 0
    have r1 : w1.cell? ⟨w.heap.size + 1, 1, none⟩ = some (.slice none 0 0) := hR.cell 1
    have r2 : w1.cell? ⟨w.heap.size + 1, 2, none⟩ = some (.slice none 0 0) := hR.cell 2
    have rf0 := hR.free 0
    have rf1 := hR.free 1
    have rf2 := hR.free 2
    have hRl := hR.lt
    clear hR
    go_wp2
    refine bodyPost_ret (v := .tuple #[gbV (.slice none 0 0) (.slice none 0 0) (.slice none 0 0), .bool false]) (by simp [results, Tryz.results11, go_sem, gbV, r0, r1, r2]) rfl ?_
    rw [HM.out]
    exact RetGbB.no ((((below_step HB.out hb1).setCell (p := ⟨w.heap.size + 1, 0, none⟩) (by simp) _).setCell (p := ⟨w.heap.size + 1, 1, none⟩) (by simp) _).setCell (p := ⟨w.heap.size + 1, 2, none⟩) (by simp) _)
  · have HM := Lib.hid (show tablesM hgZ hgR c key off = some (tabM (hgZ off) (hgR off) key off c) by unfold tablesM; rw [hk]; rfl)
    have HV := Lib.hid (keyB_of hk)
    go_enter Tryz.func11, Tryz.ntmps11
    go_wp2_with fail
    refine (c_spec_hgAsked (H.out.below HB.out)).mono ?_
    rintro e w1 ⟨rfl, hb1⟩
    have HB1 := Lib.hid (below_step HB.out hb1)
    replace HKC := Lib.hid (HKC.out.step hb1)
    have x0 : w1.cell? ⟨w.heap.size, 0, none⟩ = some (.int .i64 c.i0) := HKC.out.cell 0
    have x1 : w1.cell? ⟨w.heap.size, 1, none⟩ = some (.int .i64 c.i1) := HKC.out.cell 1
    have x2 : w1.cell? ⟨w.heap.size, 2, none⟩ = some (.slice A c.gs.length cg) := HKC.out.cell 2
    have x3 : w1.cell? ⟨w.heap.size, 3, none⟩ = some (.slice A' c.outs.length co) := HKC.out.cell 3
    clear hw0
    go_wp2_with fail
    refine (c_spec_hgMake (H.out.below HB1.out) HV.out.1 HV.out.2.1 HV.out.2.2.1).mono ?_
    rintro e w2 ⟨u, rv, nv, cv, vs, rfl, hu, hz, hb2⟩
    obtain ⟨Ar, cr, rfl, -⟩ := hz.rows.rowsIn.form
    obtain ⟨Ao, co', rfl, -⟩ := hz.ones.ints
    obtain ⟨Ac, cc, rfl, -⟩ := hz.cols.ints
    have HB2 := Lib.hid (below_step HB1.out hb2)
    have hR := (HR.out.step hb1).step hb2
    have r0 : w2.cell? ⟨w.heap.size + 1, 0, none⟩ = some (.slice none 0 0) := hR.cell 0
    have r1 : w2.cell? ⟨w.heap.size + 1, 1, none⟩ = some (.slice none 0 0) := hR.cell 1
    have r2 : w2.cell? ⟨w.heap.size + 1, 2, none⟩ = some (.slice none 0 0) := hR.cell 2
    have rf0 := hR.free 0
    have rf1 := hR.free 1
    have rf2 := hR.free 2
    have hRl := hR.lt
    have HRR := Lib.hid hR
    have hlow : w.heap.size + 1 < w1.heap.size := (HR.out.step hb1).lt
    have HBX := HB2
    replace hz := Lib.hid hz
    clear hb1 hb2 hR
    unfold gbV
    clear hu
    obtain ⟨w3, hw3⟩ : ∃ W, w2.alloc (.cells #[.slice Ar (tabM (hgZ off) (hgR off) key off c).rows.length cr, .slice Ao (tabM (hgZ off) (hgR off) key off c).ones.length co', .slice Ac (tabM (hgZ off) (hgR off) key off c).cols.length cc] 35) = W := ⟨_, rfl⟩
    have hb3 : Below w2.heap.size w2 w3 := by rw [← hw3]; exact (Below.refl _ _).alloc (Nat.le_refl _) _
    have hk3 : Blk w3 w2.heap.size 35 #[.slice Ar (tabM (hgZ off) (hgR off) key off c).rows.length cr, .slice Ao (tabM (hgZ off) (hgR off) key off c).ones.length co', .slice Ac (tabM (hgZ off) (hgR off) key off c).cols.length cc] := by rw [← hw3]; exact Blk.new _ _ _
    have y0 : w3.cell? ⟨w2.heap.size, 0, none⟩ = some (.slice Ar (tabM (hgZ off) (hgR off) key off c).rows.length cr) := hk3.cell 0
    have y1 : w3.cell? ⟨w2.heap.size, 1, none⟩ = some (.slice Ao (tabM (hgZ off) (hgR off) key off c).ones.length co') := hk3.cell 1
    have y2 : w3.cell? ⟨w2.heap.size, 2, none⟩ = some (.slice Ac (tabM (hgZ off) (hgR off) key off c).cols.length cc) := hk3.cell 2
    replace r0 := (hb3.cell (p := ⟨w.heap.size + 1, 0, none⟩) hRl).trans r0
    replace r1 := (hb3.cell (p := ⟨w.heap.size + 1, 1, none⟩) hRl).trans r1
    replace r2 := (hb3.cell (p := ⟨w.heap.size + 1, 2, none⟩) hRl).trans r2
    have hR3 := (Blk.step (w := w2) (w' := w3) HRR.out hb3)
    replace rf0 := hR3.free 0
    replace rf1 := hR3.free 1
    replace rf2 := hR3.free 2
    replace hRl := hR3.lt
    replace hz := Lib.hid (hz.out.below hb3)
    replace HBX := Lib.hid (below_step HBX.out hb3)
    clear hb3 hk3 hR3
    go_wp2
    refine bodyPost_ret (v := .tuple #[gbV (.slice Ar (tabM (hgZ off) (hgR off) key off c).rows.length cr) (.slice Ao (tabM (hgZ off) (hgR off) key off c).ones.length co') (.slice Ac (tabM (hgZ off) (hgR off) key off c).cols.length cc), .bool true]) (by simp [results, Tryz.results11, go_sem, gbV, r0, r1, r2]) rfl ⟨_, _, _, vs, by rw [HM.out]; rfl, ?_, ?_⟩
    · rw [HM.out]
      exact (((hz.out.setLow hlow 0 _).setLow hlow 1 _).setLow hlow 2 _).mono HB1.out.size
    · exact ((HBX.out.setCell (p := ⟨w.heap.size + 1, 0, none⟩) (by simp) _).setCell (p := ⟨w.heap.size + 1, 1, none⟩) (by simp) _).setCell (p := ⟨w.heap.size + 1, 2, none⟩) (by simp) _

theorem zerosM_len {F : Int → Int → Int → Int → Int} {R : Int → Int → Int → Int → List Int} (c : Cir) (key off : Int) : ((zerosM F R c key off).getD []).length ≤ 340 := by
  unfold zerosM
  rcases h : keyB c key off with _ | _
  · simp
  · have hc := (keyB_of h).1
    have h1 := zr_len (F := F off) (R := R off) (key := key) (off := off) hc
    have hb := cirB_bd hc
    have : c.ins.toNat ≤ 40 := by unfold Cir.ins; omega
    simp only [if_true, Option.getD_some]
    omega
theorem gb_sz (c : Cir) (key off : Int) : ((tablesM gbZ gbR c key off).getD Gb.none).sz ≤ 2097152 := by
  unfold tablesM
  rcases h : keyB c key off with _ | _
  · show Gb.none.sz ≤ 2097152; decide
  · have hv := keyB_of h
    simp only [if_true, Option.getD_some]
    exact Nat.le_trans (tab_sz (n := 3) hv.1 (gb_tab_ok hv.1 hv.2.2.1) (by omega)) (by omega)
theorem hg_sz (c : Cir) (key off : Int) : ((tablesM hgZ hgR c key off).getD Gb.none).sz ≤ 2097152 := by
  unfold tablesM
  rcases h : keyB c key off with _ | _
  · show Gb.none.sz ≤ 2097152; decide
  · have hv := keyB_of h
    simp only [if_true, Option.getD_some]
    exact Nat.le_trans (tab_sz (n := 2) hv.1 (hg_tab_ok hv.1 hv.2.2.1) (by omega)) (by omega)
end Go.Proofs.YtejeppjmlgfiaaaGreat
