/- Contracts of the reference's test of values and of its sums of lists. Conditions: the lists are short. -/
import Derived.Test.YtmccfdaaneemfaaShrM
import Derived.Test.YtmccfdaaneemfaaBtMod
import Derived.Test.YtmccfdaaneemfaaScal
namespace Go.Proofs.Ytmccfdaaneemfaa
open Go.RowKit
set_option linter.unusedVariables false

theorem kmul_bd {k y : Int} (hk : -1 ≤ k ∧ k ≤ 300) (hy : 0 ≤ y ∧ y ≤ 300) : -300 ≤ k * y ∧ k * y ≤ 90000 := by
  rcases (show k = -1 ∨ 0 ≤ k by omega) with rfl | h
  · omega
  · have := mulBd2 (x := k) (y := y) (a := 300) (b := 300) ⟨h, hk.2⟩ hy; omega
theorem c_spec_shValues {v : Value} {l : List Int} {p : Int} {w : World} (h : Ints w v l) (hl : l.length ≤ 2097152) : Calls Try.prog 85 #[.int .i64 p, v] w fun e w' => e = .returned (.bool (shB p l)) ∧ w = w' := by
  have H := Lib.hid h
  obtain ⟨A, c, rfl, -⟩ := h
  rcases hF : fpInB p l with _ | _
  · go_enter Try.func85, Try.ntmps85
    go_wp2_with fail
    refine (c_spec_fpIn H.out hl).mono ?_
    rintro e w1 ⟨rfl, rfl⟩
    go_wp2
    go_ret; exact ⟨by simp [shB, hF], rfl⟩
  · have HM := Lib.hid (show shB p l = decide ((l.length : Int) ≤ 40) by unfold shB; rw [hF]; rfl)
    go_enter Try.func85, Try.ntmps85
    go_wp2_with fail
    refine (c_spec_fpIn H.out hl).mono ?_
    rintro e w1 ⟨rfl, rfl⟩
    go_wp2
    go_ret; exact ⟨by rw [HM.out]; rfl, rfl⟩
set_option maxRecDepth 100000 in
set_option maxHeartbeats 1000000 in
theorem c_spec_shSum {va vb : Value} {a b : List Int} {p t : Int} {w : World} (ha : Ints w va a) (hb' : Ints w vb b) (hl : a.length ≤ 1000) (hab : a.length = b.length) (hp : 2 ≤ p ∧ p ≤ 300) (ht : -1 ≤ t ∧ t ≤ 300)
    (hxa : ∀ x ∈ a, 0 ≤ x ∧ x < p) (hxb : ∀ x ∈ b, 0 ≤ x ∧ x < p) :
    Calls Try.prog 87 #[.int .i64 p, va, vb, .int .i64 t] w (RetI w (combN (fun x y => x + t * y) p a b)) := by
  obtain ⟨A, c, rfl, hlc, hcm, hrd⟩ := ha
  obtain ⟨A', c', rfl, hlc', hcm', hrd'⟩ := hb'
  rw [← hab] at hlc' ⊢
  have HAB := Lib.hid hab
  have HXA := Lib.hid hxa
  have HXB := Lib.hid hxb
  clear hab hxa hxb
  go_enter Try.func87, Try.ntmps87
  go_wp2
  go_loopw [9, 14] (fun u i wr => ∃ k : Nat, k ≤ a.length ∧ i = .int .i64 k ∧ Hid (OwnI wr w.heap.size u (combN (fun x y => x + t * y) p (a.take k) (b.take k))) ∧ Hid (Below w.heap.size w wr)) (fun _ i _ => a.length - (intOf i).toNat)
  case atStart => exact ⟨0, Nat.zero_le _, rfl, Lib.hid (OwnI.nil _ _), Lib.hid (Below.refl _ _)⟩
  case round =>
    obtain ⟨k, hk, rfl, HO, HB⟩ := hrel
    obtain ⟨wa, rfl⟩ : ∃ W, W = wr := ⟨wr, rfl⟩
    by_cases hlt : k < a.length
    · obtain ⟨b1, o1, x, rfl, hbl, hxk, hcell⟩ := hrd.int_at hlt
      obtain ⟨b2, o2, y, rfl, hbl2, hyk, hcell2⟩ := hrd'.int_at (k := k) (by rw [← HAB.out]; exact hlt)
      have hx1 := HXA.out x (List.mem_of_getElem? hxk)
      have hy1 := HXB.out y (List.mem_of_getElem? hyk)
      have hty := kmul_bd ht (show 0 ≤ y ∧ y ≤ 300 by omega)
      have HT := Lib.hid (combN_snoc (f := fun x y => x + t * y) (p := p) hxk hyk)
      have hlen : (combN (fun x y => x + t * y) p (a.take k) (b.take k)).length ≤ 1000 := by unfold combN; simp; omega
      have hsz := HB.out.size
      have hk0 : (0 : Int) ≤ (k : Int) := Int.natCast_nonneg _
      have hk1 : (k : Int) < (a.length : Int) := by omega
      have e1 := (HB.out.cell (p := ⟨b1, o1 + k, none⟩) hbl).trans hcell
      have e2 := (HB.out.cell (p := ⟨b2, o2 + k, none⟩) hbl2).trans hcell2
      generalize combN (fun x y => x + t * y) p (a.take k) (b.take k) = Sk at *
      clear hxk hyk hcell hcell2
      go_wp2_with fail
      refine (c_spec_btMod (by omega) (by omega)).mono ?_
      rintro e w1 ⟨rfl, rfl⟩
      go_wp2_with (at_builtin; refine wp_app1 (B := w.heap.size) rfl rfl Try.underlying32 info_int rfl HO.out rfl rfl rfl (by unfold maxLen; omega) (by omega) hsz ?_; intro v' w9 ho hg hfr)
      have HB9 := Lib.hid (below_app HB.out HO.out hg (Nat.le_refl _))
      go_roundw
      case rel => exact ⟨k + 1, by omega, by go_num, by rw [HT.out]; exact Lib.hid (OwnI.snoc ho), HB9⟩
      case measure => simp [intOf]; omega
    · have HE := Lib.hid (show a.take k = a from List.take_of_length_le (by omega))
      have HE2 := Lib.hid (show b.take k = b from List.take_of_length_le (by rw [← HAB.out]; omega))
      go_wp2
      go_ret
      exact RetI.mk (by have := HO.out; rw [HE.out, HE2.out] at this; exact this) HB.out
end Go.Proofs.Ytmccfdaaneemfaa
