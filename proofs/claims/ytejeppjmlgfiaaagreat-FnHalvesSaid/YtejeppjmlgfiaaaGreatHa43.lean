/- Contracts of the reference's zero labels: of a gate GtAnd, its rows, and of all wires. Conditions: the circuit, the key and the offset are valid. -/
import Derived.Test.YtejeppjmlgfiaaaGreatHa35
import Derived.Test.YtejeppjmlgfiaaaGreatHa42
import Derived.Test.YtejeppjmlgfiaaaGreatHa30
import Derived.Test.YtejeppjmlgfiaaaGreatHa10
import Derived.Deep.RegionLaw
namespace Go.Proofs.YtejeppjmlgfiaaaGreat
open Go.RowKit
set_option linter.unusedVariables false

theorem gbZ_eq {off n x y : Int} : gbZ off n x y = xorI (digM [n, 14, xorI x (off * (x % 2)), xorI y (off * (y % 2))]) (off * (x % 2 * (y % 2))) := by
  unfold gbZ gbOwnM
  rw [xorI_zero (show 0 ≤ x % 2 by omega), xorI_zero (show 0 ≤ y % 2 by omega)]
theorem gbRow_eq {off n x y p q : Int} : gbRow off n x y p q = xorI (xorI (digM [n, 14, xorI x (off * xorI (x % 2) p), xorI y (off * xorI (y % 2) q)]) (gbZ off n x y)) (off * (xorI (x % 2) p * xorI (y % 2) q)) := by
  unfold gbRow gbOwnM
  rw [xorI_assoc]
theorem mul_bd {u r : Int} (hu : u = 0 ∨ u = 1) (hr : 0 ≤ r ∧ r ≤ 65535) : -9223372036854775808 ≤ u * r ∧ u * r ≤ 9223372036854775807 := by rcases hu with rfl | rfl <;> omega
theorem c_spec_otKey {n : Int} {w : World} : Calls Tryz.prog 61 #[.int .i64 n] w fun e w' => e = .returned (.bool (inB n 0 1000000000)) ∧ w = w' := by
  rcases h : inB n 0 1000000000 with _ | _
  all_goals
    go_enter Tryz.func61, Tryz.ntmps61
    go_wp2_with (go_at_call 117; refine (c_spec_l1In).mono ?_; rintro e w' ⟨rfl, rfl⟩)
    go_ret
    exact ⟨by simp [*], rfl⟩
set_option maxHeartbeats 1000000 in
theorem c_spec_gbZero {off n x y : Int} {w : World} (ho : 0 ≤ off ∧ off ≤ 65535) (hn : 0 ≤ n ∧ n ≤ 1000000) (hx : 0 ≤ x ∧ x ≤ 65535) (hy : 0 ≤ y ∧ y ≤ 65535) :
    Calls Tryz.prog 150 #[.int .i64 n, .int .i64 x, .int .i64 y, .int .i64 off] w fun e w' => e = .returned (.int .i64 (gbZ off n x y)) ∧ Below w.heap.size w w' := by
  have HE := Lib.hid (gbZ_eq (off := off) (n := n) (x := x) (y := y))
  have hZ := gbZ_bd ho n x y
  generalize gbZ off n x y = Z at *
  have ta := tmod2 hx.1
  have tb := tmod2 hy.1
  have hu := bit2 x
  have hv := bit2 y
  generalize x % 2 = u at *
  generalize y % 2 = v at *
  have za := label_xor hx ho hu
  have zb := label_xor hy ho hv
  have ba := xorI_bd hx.1 (off_bit ho hu).1 hx.2 (off_bit ho hu).2
  have bb := xorI_bd hy.1 (off_bit ho hv).1 hy.2 (off_bit ho hv).2
  have HC := Lib.hid (fun W => c_spec_gbCipher (w := W) (n := n) (x := xorI x (off * u)) (y := xorI y (off * v)) (by omega) (by omega) (by omega))
  have hd := digM_bd [n, 14, xorI x (off * u), xorI y (off * v)]
  have huv := mul_bit hu hv
  have zz := label_xor hd ho huv
  rw [← HE.out] at zz
  have za2 := bits_and_bit hu hv
  have m1 := mul_bd hu ho
  have m2 := mul_bd hv ho
  have m3 := mul_bd huv ho
  generalize digM [n, 14, xorI x (off * u), xorI y (off * v)] = d at *
  generalize xorI x (off * u) = a at *
  generalize xorI y (off * v) = b at *
  clear HE hu hv hd
  go_enter Tryz.func150, Tryz.ntmps150
  go_wp2_with fail
  refine (HC.out _).mono ?_
  rintro e w1 ⟨rfl, hb1⟩
  go_wp2
  go_ret
  exact ⟨rfl, hb1⟩
set_option maxRecDepth 100000 in
set_option maxHeartbeats 2000000 in
theorem c_spec_gbRows {off n x y Z : Int} {w : World} (hZ : Z = gbZ off n x y) (ho : 0 ≤ off ∧ off ≤ 65535) (hn : 0 ≤ n ∧ n ≤ 1000000) (hx : 0 ≤ x ∧ x ≤ 65535) (hy : 0 ≤ y ∧ y ≤ 65535) :
    Calls Tryz.prog 147 #[.int .i64 n, .int .i64 x, .int .i64 y, .int .i64 Z, .int .i64 off] w (RetI w (gbR off n x y)) := by
  have hz := gbZ_bd ho n x y
  have ta := tmod2 hx.1
  have tb := tmod2 hy.1
  have HZZ := Lib.hid hZ
  rw [← hZ] at hz
  clear hZ
  go_enter Tryz.func147, Tryz.ntmps147
  go_wp2
  go_loopw [11, 12] (fun u i wr => ∃ k : Nat, 1 ≤ k ∧ k ≤ 4 ∧ i = .int .i64 k ∧ Hid (OwnI wr w.heap.size u ((gbR off n x y).take (k - 1))) ∧ Hid (Below w.heap.size w wr)) (fun _ i _ => 4 - (intOf i).toNat)
  case atStart => exact ⟨1, by omega, by omega, rfl, Lib.hid (OwnI.nil _ _), Lib.hid (Below.refl _ _)⟩
  case round =>
    obtain ⟨k, hk1, hk, rfl, HU, HB⟩ := hrel
    have hk5 : k = 1 ∨ k = 2 ∨ k = 3 ∨ k = 4 := by omega
    rcases hk5 with rfl | rfl | rfl | rfl
    · replace HU := Lib.hid (show OwnI wr w.heap.size _ [] from HU.out)
      have hu := xor_bit (b := 0) (bit2 x) (Or.inl rfl)
      have hv := xor_bit (b := 1) (bit2 y) (Or.inr rfl)
      have HE := Lib.hid (gbRow_eq (off := off) (n := n) (x := x) (y := y) (p := 0) (q := 1))
      rw [← HZZ.out] at HE
      have HRE := Lib.hid (show (gbR off n x y).take 1 = [] ++ [gbRow off n x y 0 1] from rfl)
      have hrow := gbRow_bd ho n x y (p := 0) (q := 1) (Or.inl rfl) (Or.inr rfl)
      have zu := bits_xor (a := x % 2) (b := 0) (by omega) (by omega) (by omega) (by omega)
      have zv := bits_xor (a := y % 2) (b := 1) (by omega) (by omega) (by omega) (by omega)
      generalize gbRow off n x y 0 1 = row at *
      generalize xorI (x % 2) 0 = u at *
      generalize xorI (y % 2) 1 = v at *
      generalize x % 2 = x2 at *
      generalize y % 2 = y2 at *
      have za := label_xor hx ho hu
      have zb := label_xor hy ho hv
      have ba := xorI_bd hx.1 (off_bit ho hu).1 hx.2 (off_bit ho hu).2
      have bb := xorI_bd hy.1 (off_bit ho hv).1 hy.2 (off_bit ho hv).2
      have HC := Lib.hid (fun W => c_spec_gbCipher (w := W) (n := n) (x := xorI x (off * u)) (y := xorI y (off * v)) (by omega) (by omega) (by omega))
      have hd := digM_bd [n, 14, xorI x (off * u), xorI y (off * v)]
      have huv := mul_bit hu hv
      have zd := bits_xor hd.1 hz.1 (by omega) (by omega)
      have bd := xorI_bd hd.1 hz.1 hd.2 hz.2
      have zz := label_xor bd ho huv
      rw [← HE.out] at zz
      have za2 := bits_and_bit hu hv
      have m1 := mul_bd hu ho
      have m2 := mul_bd hv ho
      have m3 := mul_bd huv ho
      generalize xorI (digM [n, 14, xorI x (off * u), xorI y (off * v)]) Z = dz at *
      generalize digM [n, 14, xorI x (off * u), xorI y (off * v)] = d at *
      generalize xorI x (off * u) = a at *
      generalize xorI y (off * v) = b at *
      clear HE hu hv hd
      go_wp2_with fail
      refine (HC.out _).mono ?_
      rintro e w1 ⟨rfl, hb1⟩
      have HB1 := Lib.hid (below_step HB.out hb1)
      have HO1 := Lib.hid (HU.out.below hb1)
      obtain ⟨Au, cu, rfl, -⟩ := HO1.out.ints
      clear hb1 HC
      have hsz := HB1.out.size
      go_wp2_with (at_builtin; refine wp_app1 (B := w.heap.size) rfl rfl Tryz.underlying24 info_int rfl HO1.out rfl rfl rfl (by unfold maxLen; simp) (by simp) hsz ?_; intro v' w2 ho2 hg hfr)
      have HB2 := Lib.hid (below_app HB1.out HO1.out hg (Nat.le_refl _))
      go_roundw
      case rel => exact ⟨2, by omega, by omega, by go_num, Lib.hid (by show OwnI _ _ _ ((gbR off n x y).take 1); rw [HRE.out]; exact OwnI.snoc ho2), HB2⟩
      case measure => simp [intOf]
    · replace HU := Lib.hid (show OwnI wr w.heap.size _ [gbRow off n x y 0 1] from HU.out)
      have hu := xor_bit (b := 1) (bit2 x) (Or.inr rfl)
      have hv := xor_bit (b := 0) (bit2 y) (Or.inl rfl)
      have HE := Lib.hid (gbRow_eq (off := off) (n := n) (x := x) (y := y) (p := 1) (q := 0))
      rw [← HZZ.out] at HE
      have HRE := Lib.hid (show (gbR off n x y).take 2 = [gbRow off n x y 0 1] ++ [gbRow off n x y 1 0] from rfl)
      have hrow := gbRow_bd ho n x y (p := 1) (q := 0) (Or.inr rfl) (Or.inl rfl)
      have zu := bits_xor (a := x % 2) (b := 1) (by omega) (by omega) (by omega) (by omega)
      have zv := bits_xor (a := y % 2) (b := 0) (by omega) (by omega) (by omega) (by omega)
      generalize gbRow off n x y 1 0 = row at *
      generalize xorI (x % 2) 1 = u at *
      generalize xorI (y % 2) 0 = v at *
      generalize x % 2 = x2 at *
      generalize y % 2 = y2 at *
      have za := label_xor hx ho hu
      have zb := label_xor hy ho hv
      have ba := xorI_bd hx.1 (off_bit ho hu).1 hx.2 (off_bit ho hu).2
      have bb := xorI_bd hy.1 (off_bit ho hv).1 hy.2 (off_bit ho hv).2
      have HC := Lib.hid (fun W => c_spec_gbCipher (w := W) (n := n) (x := xorI x (off * u)) (y := xorI y (off * v)) (by omega) (by omega) (by omega))
      have hd := digM_bd [n, 14, xorI x (off * u), xorI y (off * v)]
      have huv := mul_bit hu hv
      have zd := bits_xor hd.1 hz.1 (by omega) (by omega)
      have bd := xorI_bd hd.1 hz.1 hd.2 hz.2
      have zz := label_xor bd ho huv
      rw [← HE.out] at zz
      have za2 := bits_and_bit hu hv
      have m1 := mul_bd hu ho
      have m2 := mul_bd hv ho
      have m3 := mul_bd huv ho
      generalize xorI (digM [n, 14, xorI x (off * u), xorI y (off * v)]) Z = dz at *
      generalize digM [n, 14, xorI x (off * u), xorI y (off * v)] = d at *
      generalize xorI x (off * u) = a at *
      generalize xorI y (off * v) = b at *
      clear HE hu hv hd
      go_wp2_with fail
      refine (HC.out _).mono ?_
      rintro e w1 ⟨rfl, hb1⟩
      have HB1 := Lib.hid (below_step HB.out hb1)
      have HO1 := Lib.hid (HU.out.below hb1)
      obtain ⟨Au, cu, rfl, -⟩ := HO1.out.ints
      clear hb1 HC
      have hsz := HB1.out.size
      go_wp2_with (at_builtin; refine wp_app1 (B := w.heap.size) rfl rfl Tryz.underlying24 info_int rfl HO1.out rfl rfl rfl (by unfold maxLen; simp) (by simp) hsz ?_; intro v' w2 ho2 hg hfr)
      have HB2 := Lib.hid (below_app HB1.out HO1.out hg (Nat.le_refl _))
      go_roundw
      case rel => exact ⟨3, by omega, by omega, by go_num, Lib.hid (by show OwnI _ _ _ ((gbR off n x y).take 2); rw [HRE.out]; exact OwnI.snoc ho2), HB2⟩
      case measure => simp [intOf]
    · replace HU := Lib.hid (show OwnI wr w.heap.size _ [gbRow off n x y 0 1, gbRow off n x y 1 0] from HU.out)
      have hu := xor_bit (b := 1) (bit2 x) (Or.inr rfl)
      have hv := xor_bit (b := 1) (bit2 y) (Or.inr rfl)
      have HE := Lib.hid (gbRow_eq (off := off) (n := n) (x := x) (y := y) (p := 1) (q := 1))
      rw [← HZZ.out] at HE
      have HRE := Lib.hid (show (gbR off n x y).take 3 = [gbRow off n x y 0 1, gbRow off n x y 1 0] ++ [gbRow off n x y 1 1] from rfl)
      have hrow := gbRow_bd ho n x y (p := 1) (q := 1) (Or.inr rfl) (Or.inr rfl)
      have zu := bits_xor (a := x % 2) (b := 1) (by omega) (by omega) (by omega) (by omega)
      have zv := bits_xor (a := y % 2) (b := 1) (by omega) (by omega) (by omega) (by omega)
      generalize gbRow off n x y 1 1 = row at *
      generalize xorI (x % 2) 1 = u at *
      generalize xorI (y % 2) 1 = v at *
      generalize x % 2 = x2 at *
      generalize y % 2 = y2 at *
      have za := label_xor hx ho hu
      have zb := label_xor hy ho hv
      have ba := xorI_bd hx.1 (off_bit ho hu).1 hx.2 (off_bit ho hu).2
      have bb := xorI_bd hy.1 (off_bit ho hv).1 hy.2 (off_bit ho hv).2
      have HC := Lib.hid (fun W => c_spec_gbCipher (w := W) (n := n) (x := xorI x (off * u)) (y := xorI y (off * v)) (by omega) (by omega) (by omega))
      have hd := digM_bd [n, 14, xorI x (off * u), xorI y (off * v)]
      have huv := mul_bit hu hv
      have zd := bits_xor hd.1 hz.1 (by omega) (by omega)
      have bd := xorI_bd hd.1 hz.1 hd.2 hz.2
      have zz := label_xor bd ho huv
      rw [← HE.out] at zz
      have za2 := bits_and_bit hu hv
      have m1 := mul_bd hu ho
      have m2 := mul_bd hv ho
      have m3 := mul_bd huv ho
      generalize xorI (digM [n, 14, xorI x (off * u), xorI y (off * v)]) Z = dz at *
      generalize digM [n, 14, xorI x (off * u), xorI y (off * v)] = d at *
      generalize xorI x (off * u) = a at *
      generalize xorI y (off * v) = b at *
      clear HE hu hv hd
      go_wp2_with fail
      refine (HC.out _).mono ?_
      rintro e w1 ⟨rfl, hb1⟩
      have HB1 := Lib.hid (below_step HB.out hb1)
      have HO1 := Lib.hid (HU.out.below hb1)
      obtain ⟨Au, cu, rfl, -⟩ := HO1.out.ints
      clear hb1 HC
      have hsz := HB1.out.size
      go_wp2_with (at_builtin; refine wp_app1 (B := w.heap.size) rfl rfl Tryz.underlying24 info_int rfl HO1.out rfl rfl rfl (by unfold maxLen; simp) (by simp) hsz ?_; intro v' w2 ho2 hg hfr)
      have HB2 := Lib.hid (below_app HB1.out HO1.out hg (Nat.le_refl _))
      go_roundw
      case rel => exact ⟨4, by omega, by omega, by go_num, Lib.hid (by show OwnI _ _ _ ((gbR off n x y).take 3); rw [HRE.out]; exact OwnI.snoc ho2), HB2⟩
      case measure => simp [intOf]
    · go_wp2
      go_ret
      exact RetI.mk HU.out HB.out
theorem grown_alloc (w : World) (o : Obj) {w' : World} {b : Option Nat} (h : (w.alloc o).grownBy w' b) : w.grownBy w' b := by
  obtain ⟨a1, a2, a3, a4, a5⟩ := h
  exact ⟨a1, a2, a3, by simp at a4; omega, fun i hi hn => by rw [a5 i (by simp; omega) hn]; exact Below.heap_alloc _ _ _ hi⟩
set_option maxRecDepth 100000 in
set_option maxHeartbeats 4000000 in
theorem c_spec_gbZeros {c : Cir} {gv ov : Value} {key off : Int} {w : World} (h : CirIn w gv ov c) (hc : cirB c = true) (hk : 0 ≤ key ∧ key ≤ 1000000000) (ho : 0 ≤ off ∧ off ≤ 65535) :
    Calls Tryz.prog 101 #[cirV c gv ov, .int .i64 key, .int .i64 off] w (RetI w (zrM (gbZ off) (gbR off) key off c.ins.toNat c.gs).zs) := by
  have hbd := cirB_bd hc
  have hgl : c.gs.length ≤ 300 := hbd.2.2.2.2.1
  have hins : 0 ≤ c.ins ∧ c.ins ≤ 40 := by unfold Cir.ins; omega
  have HGB := Lib.hid (cirB_gates hc)
  have HKB := Lib.hid (cirB_kinds hc)
  have HBD := Lib.hid (zr_bd (m := 3) (F := gbZ off) (R := gbR off) ho (fun w x y _ _ => gbZ_bd ho w x y) (fun w x y _ _ => gbR_bd ho w x y) key c.ins.toNat)
  have hi4 : 0 ≤ c.i0 ∧ c.i0 ≤ 20 ∧ 0 ≤ c.i1 ∧ c.i1 ≤ 20 := by omega
  have H := Lib.hid h
  obtain ⟨hg, hoo⟩ := h
  obtain ⟨A, cg, rfl, hlg, hmg, hrg⟩ := hg
  obtain ⟨A', co, rfl, -⟩ := hoo
  have HRG := Lib.hid hrg
  unfold maxLen at hmg
  clear hc hbd hrg
  obtain ⟨N, hN⟩ : ∃ N : Nat, c.ins = (N : Int) := ⟨c.ins.toNat, by omega⟩
  have hN2 : c.ins.toNat = N := by omega
  rw [hN2] at HBD
  have HN := Lib.hid hN
  have hI := (fun W (hW : Below w.heap.size w W) => c_spec_ciInputs (H.out.below hW) hi4)
  rw [hN] at hI
  have HI := Lib.hid hI
  have hN40 : (N : Int) ≤ 40 := by omega
  clear hN hN2 hI hins
  unfold cirV at HI ⊢
  have HB0 : Hid (Below w.heap.size w (w.alloc (.cells #[.int .i64 c.i0, .int .i64 c.i1, .slice A c.gs.length cg, .slice A' c.outs.length co] 26))) := Lib.hid ((Below.refl w.heap.size w).alloc (Nat.le_refl _) _)
  have HKC0 := Lib.hid (Blk.new w 26 #[.int .i64 c.i0, .int .i64 c.i1, .slice A c.gs.length cg, .slice A' c.outs.length co])
  go_enter Tryz.func101, Tryz.ntmps101
  go_wp2
  go_loopw [7, 8] (fun u i wr => ∃ k : Nat, k ≤ N ∧ i = .int .i64 k ∧ Hid (OwnI wr (w.heap.size + 1) u (zIns key k)) ∧ Hid (Below w.heap.size w wr) ∧ w.heap.size + 1 ≤ wr.heap.size ∧ Hid (Blk wr w.heap.size 26 #[.int .i64 c.i0, .int .i64 c.i1, .slice A c.gs.length cg, .slice A' c.outs.length co])) (fun _ i _ => N - (intOf i).toNat)
  case atStart => exact ⟨0, Nat.zero_le _, rfl, Lib.hid (OwnI.nil _ _), HB0, by simp, HKC0⟩
  case round =>
    obtain ⟨k, hk2, rfl, HO, HB, hzr, HKC⟩ := hrel
    clear HB0 HKC0
    obtain ⟨wa, rfl⟩ : ∃ W, W = wr := ⟨wr, rfl⟩
    have x0 : wa.cell? ⟨w.heap.size, 0, none⟩ = some (.int .i64 c.i0) := HKC.out.cell 0
    have x1 : wa.cell? ⟨w.heap.size, 1, none⟩ = some (.int .i64 c.i1) := HKC.out.cell 1
    have x2 : wa.cell? ⟨w.heap.size, 2, none⟩ = some (.slice A c.gs.length cg) := HKC.out.cell 2
    have x3 : wa.cell? ⟨w.heap.size, 3, none⟩ = some (.slice A' c.outs.length co) := HKC.out.cell 3
    go_wp2_with fail
    refine (HI.out _ HB.out).mono ?_
    rintro e w1 ⟨rfl, hb1⟩
    replace HO := Lib.hid (HO.out.below hb1)
    replace HB := Lib.hid (below_step HB.out hb1)
    replace HKC := Lib.hid (HKC.out.step hb1)
    replace hzr := Nat.le_trans hzr hb1.size
    clear hb1 x0 x1 x2 x3
    by_cases hlt : k < N
    · go_wp2_with fail
      refine (c_spec_lbZero (by omega) (by omega)).mono ?_
      rintro e w2 ⟨rfl, hb2⟩
      have hdb := digM_bd [key, (k : Int), 13, 0]
      have HS := Lib.hid (zIns_snoc key k)
      generalize digM [key, (k : Int), 13, 0] = z at *
      have HO2 := Lib.hid (HO.out.below hb2)
      have HB2 := Lib.hid (below_step HB.out hb2)
      have HKC2 := Lib.hid (HKC.out.step hb2)
      have hz2 := Nat.le_trans hzr hb2.size
      have hlen : (zIns key k).length ≤ 40 := by rw [zIns_length]; omega
      clear hb2 HO HB HKC
      go_wp2_with (at_builtin; refine wp_app1 (B := w.heap.size + 1) rfl rfl Tryz.underlying24 info_int rfl HO2.out rfl rfl rfl (by unfold maxLen; omega) (by omega) hz2 ?_; intro v' w9 ho hg hfr)
      have HBn := Lib.hid (below_app HB2.out (own_mono HO2.out (Nat.le_add_right _ 1)) hg (Nat.le_refl _))
      have HKn := Lib.hid (HKC2.out.grown hg (fun e => by have := HO2.out.ge _ e.symm; omega))
      have hzn := Nat.le_trans hz2 hg.size
      go_roundw
      case rel => exact ⟨k + 1, by omega, by go_num, by rw [HS.out]; exact Lib.hid (OwnI.snoc ho), HBn, hzn, HKn⟩
      case measure => simp [intOf]; omega
    · obtain rfl : k = N := by omega
      have x2 : w1.cell? ⟨w.heap.size, 2, none⟩ = some (.slice A c.gs.length cg) := HKC.out.cell 2
      have HO1 := HO
      have HB1 := HB
      have hzr1 := hzr
      clear HKC HO HB
      go_wp2
      clear x2
      go_loopw [7, 27] (fun u i wr => ∃ (j : Nat), j ≤ c.gs.length ∧ i = .int .i64 j ∧ Hid (OwnI wr (w.heap.size + 1) u (zrM (gbZ off) (gbR off) key off k (c.gs.take j)).zs) ∧ Hid (Below w.heap.size w wr) ∧ w.heap.size + 1 ≤ wr.heap.size) (fun _ i _ => c.gs.length - (intOf i).toNat)
      case atStart => exact ⟨0, Nat.zero_le _, rfl, HO1, HB1, hzr1⟩
      case round =>
        obtain ⟨j, hj, rfl, HO, HB, hzw⟩ := hrel
        clear HO1 HB1
        by_cases hjl : j < c.gs.length
        · obtain ⟨b, o, g, rfl, hbl, hgk, c0, c1', c2'⟩ := (HRG.out.below HB.out).gate_at hjl
          have hgb := gate_ab (gatesB_at _ _ j g HGB.out hgk)
          obtain ⟨i1, i2, i3⟩ := zr_inv (F := gbZ off) (R := gbR off) (key := key) (off := off) (n := k) HKB.out j (by omega)
          have HS := Lib.hid (zr_snoc (F := gbZ off) (R := gbR off) (key := key) (off := off) (n := k) hgk)
          obtain ⟨hbs, hbr, -⟩ := HBD.out (c.gs.take j)
          have hcl1 := cnt_le 1 c.gs j
          have hcb1 := cnt_bd 1 c.gs
          generalize hs : zrM (gbZ off) (gbR off) key off k (c.gs.take j) = s at *
          clear hs hgk
          obtain ⟨gk, ga, gb⟩ := g
          obtain ⟨l, rows, ones⟩ := s
          simp only at c0 c1' c2' hgb i1 i2 i3 hbs hbr HO
          obtain ⟨Au, cu, rfl, hlu, hmu, hru⟩ := own_form HO.out
          unfold maxLen at hmu
          have hll : (l.length : Int) = k + j := by omega
          have hl340 : l.length ≤ 340 := by have := HN.out; omega
          have hrl : rows.length ≤ 300 := by omega
          have HLL := Lib.hid hll
          have HBS := Lib.hid hbs
          have HRU := Lib.hid hru
          have HNN := HN.out
          rw [HNN] at hgb
          obtain ⟨wb, hwb⟩ : ∃ W, wr.alloc (.cells #[.int .i64 gk, .int .i64 ga, .int .i64 gb] 117) = W := ⟨_, rfl⟩
          have hbb : Below wr.heap.size wr wb := by rw [← hwb]; exact (Below.refl _ _).alloc (Nat.le_refl _) _
          have HBX : Hid (Blk wb wr.heap.size 117 #[.int .i64 gk, .int .i64 ga, .int .i64 gb]) := by rw [← hwb]; exact Blk.new _ _ _
          have y0 : wb.cell? ⟨wr.heap.size, 0, none⟩ = some (.int .i64 gk) := HBX.out.cell 0
          have y1 : wb.cell? ⟨wr.heap.size, 1, none⟩ = some (.int .i64 ga) := HBX.out.cell 1
          have y2 : wb.cell? ⟨wr.heap.size, 2, none⟩ = some (.int .i64 gb) := HBX.out.cell 2
          have HBB := Lib.hid hbb
          have HB2 := Lib.hid (below_step HB.out hbb)
          have HO2 := Lib.hid (HO.out.below hbb)
          have hsz : w.heap.size + 1 ≤ wb.heap.size := Nat.le_trans hzw HBB.out.size
          clear hbb hll hbs hru HB HO hlu hmu HNN hcl1 hcb1 i2 i3 hbr hlt
          have hkk : gk = 0 ∨ gk = 1 ∨ gk = 2 ∨ gk = 3 := by omega
          rcases hkk with rfl | rfl | rfl | rfl
          · -- exclusive-or
            have hab := hgb.2.1 (Or.inl rfl)
            obtain ⟨ja, rfl, hja, hea⟩ := elt_at (l := l) hab.1 (by have := HLL.out; omega)
            obtain ⟨jb, rfl, hjb, heb⟩ := elt_at (l := l) hab.2.2.1 (by have := HLL.out; omega)
            obtain ⟨bo, oo, xa, rfl, hbo, hxa, hca⟩ := (HRU.out.below HBB.out).int_at hja
            obtain ⟨bo2, oo2, xb, e2, hbo2, hxb, hcb⟩ := (HRU.out.below HBB.out).int_at hjb
            injection e2 with e2; injection e2 with e2 e2'; subst e2 e2'
            have exa := hea.symm.trans hxa
            have exb := heb.symm.trans hxb
            injection exa with exa
            injection exb with exb
            have ba := elt_bd (k := (ja : Int)) HBS.out
            have bb := elt_bd (k := (jb : Int)) HBS.out
            rw [exa] at ba
            rw [exb] at bb
            have hxor := bits_xor ba.1 bb.1 (by omega) (by omega)
            have HW := Lib.hid (show zStep (gbZ off) (gbR off) key off ⟨l, rows, ones⟩ ⟨0, (ja : Int), (jb : Int)⟩ = ⟨l ++ [xorI xa xb], rows, ones⟩ by unfold zStep; simp only [if_true]; rw [exa, exb])
            clear hgb hea heb hxa hxb exa exb hab i1
            have hja0 : (0 : Int) ≤ (ja : Int) := Int.natCast_nonneg _
            have hja1 : (ja : Int) < (l.length : Int) := by omega
            have hjb0 : (0 : Int) ≤ (jb : Int) := Int.natCast_nonneg _
            have hjb1 : (jb : Int) < (l.length : Int) := by omega
            have HO4 := Lib.hid (own_drew HO2.out)
            have hszd : w.heap.size + 1 ≤ wb.drew.heap.size := hsz
            go_wp2_with fail
            go_region_law (first
              | (refine step_app1 (B := w.heap.size + 1) (by rfl) (by rfl) Tryz.underlying24 info_int rfl (World.ownsRow.alloc HO4.out _) (cell_new _ _ _) (by rfl) (by rfl) rfl (by unfold maxLen; omega) (by omega) (by simp; omega) ?_; intro v' w9 ho hg hfr))
            all_goals
              have hg2 := grown_alloc (wb.drew) (.cells #[.int .i64 (xorI xa xb)] 3) hg
              have HZn := Lib.hid (OwnI.snoc ho)
              have HBn := Lib.hid (below_app HB2.out.drew (own_mono HO4.out (Nat.le_add_right _ 1)) hg2 (Nat.le_refl _))
              have hzn : w.heap.size + 1 ≤ w9.heap.size := Nat.le_trans hsz hg2.size
              go_wp2
              go_roundw
              case rel => exact ⟨j + 1, by omega, by go_num, by rw [HS.out, HW.out]; exact HZn, HBn, hzn⟩
              case measure => simp [intOf]; omega
          · -- and
            have hab := hgb.2.1 (Or.inr rfl)
            obtain ⟨ja, rfl, hja, hea⟩ := elt_at (l := l) hab.1 (by have := HLL.out; omega)
            obtain ⟨jb, rfl, hjb, heb⟩ := elt_at (l := l) hab.2.2.1 (by have := HLL.out; omega)
            obtain ⟨bo, oo, xa, rfl, hbo, hxa, hca⟩ := (HRU.out.below HBB.out).int_at hja
            obtain ⟨bo2, oo2, xb, e2, hbo2, hxb, hcb⟩ := (HRU.out.below HBB.out).int_at hjb
            injection e2 with e2; injection e2 with e2 e2'; subst e2 e2'
            have exa := hea.symm.trans hxa
            have exb := heb.symm.trans hxb
            injection exa with exa
            injection exb with exb
            have ba := elt_bd (k := (ja : Int)) HBS.out
            have bb := elt_bd (k := (jb : Int)) HBS.out
            rw [exa] at ba
            rw [exb] at bb
            have HW := Lib.hid (show zStep (gbZ off) (gbR off) key off ⟨l, rows, ones⟩ ⟨1, (ja : Int), (jb : Int)⟩ = ⟨l ++ [gbZ off (l.length : Int) xa xb], rows ++ [gbR off (l.length : Int) xa xb], ones⟩ by unfold zStep; simp only [Int.reduceEq, if_false]; rw [exa, exb])
            have HC := Lib.hid (fun W => c_spec_gbZero (w := W) (n := (l.length : Int)) ho (by omega) ba bb)
            clear hgb hea heb hxa hxb exa exb hab i1
            have hja0 : (0 : Int) ≤ (ja : Int) := Int.natCast_nonneg _
            have hja1 : (ja : Int) < (l.length : Int) := by omega
            have hjb0 : (0 : Int) ≤ (jb : Int) := Int.natCast_nonneg _
            have hjb1 : (jb : Int) < (l.length : Int) := by omega
            generalize gbZ off (l.length : Int) xa xb = zz at *
            go_wp2_with fail
            go_region_law (first
              | (refine step_app1 (B := w.heap.size + 1) (by rfl) (by rfl) Tryz.underlying24 info_int rfl (World.ownsRow.alloc HO4.out _) (cell_new _ _ _) (by rfl) (by rfl) rfl (by unfold maxLen; omega) (by omega) (by simp; omega) ?_; intro v' w9 ho hg hfr)
              | (go_simp; go_at_call 150; refine (HC.out _).mono ?_; rintro e w4 ⟨rfl, hb4⟩; replace hb4 : Below wb.heap.size wb w4 := below_step ((Below.refl _ _).drew) hb4; have HO4 := Lib.hid (HO2.out.below hb4); have HB4 := Lib.hid (below_step HB2.out hb4); have hsz4 : w.heap.size + 1 ≤ w4.heap.size := Nat.le_trans hsz hb4.size))
            all_goals
              have hg2 := grown_alloc w4 (.cells #[.int .i64 zz] 3) hg
              have HZn := Lib.hid (OwnI.snoc ho)
              have HBn := Lib.hid (below_app HB4.out (own_mono HO4.out (Nat.le_add_right _ 1)) hg2 (Nat.le_refl _))
              have hzn : w.heap.size + 1 ≤ w9.heap.size := Nat.le_trans hsz4 hg2.size
              go_wp2
              go_roundw
              case rel => exact ⟨j + 1, by omega, by go_num, by rw [HS.out, HW.out]; exact HZn, HBn, hzn⟩
              case measure => simp [intOf]; omega
          · -- not
            have hab := hgb.2.2 rfl
            obtain ⟨ja, rfl, hja, hea⟩ := elt_at (l := l) hab.1 (by have := HLL.out; omega)
            obtain ⟨bo, oo, xa, rfl, hbo, hxa, hca⟩ := (HRU.out.below HBB.out).int_at hja
            have exa := hea.symm.trans hxa
            injection exa with exa
            have ba := elt_bd (k := (ja : Int)) HBS.out
            rw [exa] at ba
            have hxor := bits_xor ba.1 ho.1 (by omega) (by omega)
            have HW := Lib.hid (show zStep (gbZ off) (gbR off) key off ⟨l, rows, ones⟩ ⟨2, (ja : Int), gb⟩ = ⟨l ++ [xorI xa off], rows, ones⟩ by unfold zStep; simp only [Int.reduceEq, if_false, if_true]; rw [exa])
            clear hgb hea hxa exa hab i1
            have hja0 : (0 : Int) ≤ (ja : Int) := Int.natCast_nonneg _
            have hja1 : (ja : Int) < (l.length : Int) := by omega
            go_wp2_with (at_builtin; refine wp_app1 (B := w.heap.size + 1) rfl rfl Tryz.underlying24 info_int rfl HO2.out rfl rfl rfl (by unfold maxLen; omega) (by omega) hsz ?_; intro v' w9 ho hg hfr)
            have HZn := Lib.hid (OwnI.snoc ho)
            have HBn := Lib.hid (below_app HB2.out (own_mono HO2.out (Nat.le_add_right _ 1)) hg (Nat.le_refl _))
            have hzn : w.heap.size + 1 ≤ w9.heap.size := Nat.le_trans hsz hg.size
            go_roundw
            case rel => exact ⟨j + 1, by omega, by go_num, by rw [HS.out, HW.out]; exact HZn, HBn, hzn⟩
            case measure => simp [intOf]; omega
          · -- one
            have HW := Lib.hid (show zStep (gbZ off) (gbR off) key off ⟨l, rows, ones⟩ ⟨3, ga, gb⟩ = ⟨l ++ [digM [key, (l.length : Int), 13, 0]], rows, ones ++ [xorI (digM [key, (l.length : Int), 13, 0]) off]⟩ by unfold zStep; simp only [Int.reduceEq, if_false, if_true])
            have HC := Lib.hid (fun W => c_spec_lbZero (w := W) (k := key) (n := (l.length : Int)) (by omega) (by omega))
            generalize digM [key, (l.length : Int), 13, 0] = z at *
            clear hgb i1
            go_wp2_with fail
            refine (HC.out _).mono ?_
            rintro e w2 ⟨rfl, hb2⟩
            have HO3 := Lib.hid (HO2.out.below hb2)
            have HB3 := Lib.hid (below_step HB2.out hb2)
            have hsz8 := Nat.le_trans hsz hb2.size
            clear hb2 HC
            go_wp2_with (at_builtin; refine wp_app1 (B := w.heap.size + 1) rfl rfl Tryz.underlying24 info_int rfl HO3.out rfl rfl rfl (by unfold maxLen; omega) (by omega) (by omega) ?_; intro v' w9 ho hg hfr)
            have HZn := Lib.hid (OwnI.snoc ho)
            have HBn := Lib.hid (below_app HB3.out (own_mono HO3.out (Nat.le_add_right _ 1)) hg (Nat.le_refl _))
            have hzn : w.heap.size + 1 ≤ w9.heap.size := Nat.le_trans hsz8 hg.size
            go_roundw
            case rel => exact ⟨j + 1, by omega, by go_num, by rw [HS.out, HW.out]; exact HZn, HBn, hzn⟩
            case measure => simp [intOf]; omega
        · obtain rfl : j = c.gs.length := by omega
          have HE := Lib.hid (show c.gs.take c.gs.length = c.gs from List.take_of_length_le (Nat.le_refl _))
          have HO3 := Lib.hid (show OwnI wr (w.heap.size + 1) _ (zrM (gbZ off) (gbR off) key off k c.gs).zs by have := HO.out; rw [HE.out] at this; exact this)
          clear HO HE
          go_wp2
          go_ret
          rw [show c.ins.toNat = k by have := HN.out; omega]
          exact RetI.mk (HO3.out.mono (Nat.le_add_right _ 1)) HB.out
end Go.Proofs.YtejeppjmlgfiaaaGreat
