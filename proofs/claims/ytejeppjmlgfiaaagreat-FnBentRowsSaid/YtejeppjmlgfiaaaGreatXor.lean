/- Contracts of the exclusive-or of two lists. Conditions: the lists are short, as long as each other, their numbers not negative. -/
import Derived.Test.YtejeppjmlgfiaaaGreatCol
import Derived.Deep.RegionHeld3
namespace Go.Proofs.YtejeppjmlgfiaaaGreat
open Go.RowKit
set_option linter.unusedVariables false

/-- The exclusive-or of two lists, place by place. -/
def xorsM (a b : List Int) : List Int := List.zipWith xorI a b
theorem xorsM_snoc {a b : List Int} {k : Nat} {x y : Int} (hx : a[k]? = some x) (hy : b[k]? = some y) : xorsM (a.take (k + 1)) (b.take (k + 1)) = xorsM (a.take k) (b.take k) ++ [xorI x y] := by
  have ha : k < a.length := (List.getElem?_eq_some_iff.1 hx).1
  have hb : k < b.length := (List.getElem?_eq_some_iff.1 hy).1
  rw [take_snoc hx, take_snoc hy]
  unfold xorsM
  rw [List.zipWith_append (by simp; omega)]; rfl

set_option maxHeartbeats 400000 in
theorem c_impl_xored {va vb : Value} {a b : List Int} {w : World} (ha : Ints w va a) (hb' : Ints w vb b) (hl : a.length ≤ 2097152) (hab : a.length = b.length)
    (hxa : ∀ x ∈ a, 0 ≤ x ∧ x ≤ 9223372036854775807) (hxb : ∀ x ∈ b, 0 ≤ x ∧ x ≤ 9223372036854775807) :
    Calls Tryz.prog 97 #[va, vb] w (RetI w (xorsM a b)) := by
  obtain ⟨A, c, rfl, hlc, hcm, hrd⟩ := ha
  obtain ⟨A', c', rfl, hlc', hcm', hrd'⟩ := hb'
  rw [← hab] at hlc' ⊢
  have HAB := Lib.hid hab
  clear hab
  go_enter Tryz.func97, Tryz.ntmps97
  go_wp2
  go_loopw [5, 10] (fun u i wr => ∃ k : Nat, k ≤ a.length ∧ i = .int .i64 k ∧ OwnI wr w.heap.size u (xorsM (a.take k) (b.take k)) ∧ Below w.heap.size w wr) (fun _ i _ => a.length - (intOf i).toNat)
  case atStart => exact ⟨0, Nat.zero_le _, rfl, OwnI.empty (Nat.le_refl _), (Below.refl _ _).alloc (Nat.le_refl _) _⟩
  case round =>
    obtain ⟨k, hk, rfl, hown, hb⟩ := hrel
    by_cases hlt : k < a.length
    · obtain ⟨b1, o1, x, rfl, hbl, hxk, hcell⟩ := hrd.int_at hlt
      obtain ⟨b2, o2, y, rfl, hbl2, hyk, hcell2⟩ := hrd'.int_at (k := k) (by rw [← HAB.out]; exact hlt)
      have hx1 := hxa x (List.mem_of_getElem? hxk)
      have hy1 := hxb y (List.mem_of_getElem? hyk)
      have hxor := bits_xor hx1.1 hy1.1 hx1.2 hy1.2
      have HT := Lib.hid (xorsM_snoc hxk hyk)
      have hlen : (xorsM (a.take k) (b.take k)).length ≤ a.length := by simp [xorsM]; omega
      have hsz := hb.size
      have hk0 : (0 : Int) ≤ (k : Int) := Int.natCast_nonneg _
      have hk1 : (k : Int) < (a.length : Int) := by omega
      have e1 := (hb.cell (p := ⟨b1, o1 + k, none⟩) hbl).trans hcell
      have e2 := (hb.cell (p := ⟨b2, o2 + k, none⟩) hbl2).trans hcell2
      have C1 := Lib.hid hcell
      have C2 := Lib.hid hcell2
      have HO := Lib.hid hown
      have HB0 := Lib.hid hb
      clear hxk hyk hxa hxb hcell hcell2 hown hb
      go_wp2_with fail
      go_region_held3 (fun w' => w'.cell? ⟨b1, o1 + k, none⟩ = some (.int .i64 x) ∧ w'.cell? ⟨b2, o2 + k, none⟩ = some (.int .i64 y))
        (first | go_keep | exact ⟨(HB.out.cell (p := ⟨b1, o1 + k, none⟩) hbl).trans C1.out, (HB.out.cell (p := ⟨b2, o2 + k, none⟩) hbl2).trans C2.out⟩)
        ((refine step_app1 (B := w.heap.size) (by rfl) (by rfl) Tryz.underlying24 info_int rfl ((World.ownsRow.alloc HO.out _).drew) (cell_new wr _ _) (by rfl) (by rfl) rfl (by unfold maxLen; omega) (by omega) (by simp; omega) ?_; intro v' w1 ho hg hfr; have HB := Lib.hid ((HB0.out.alloc hsz _).drew.grown hg (by simp; omega) (fun g hg' => own_ge HO.out g hg'))))
      go_wp2
      go_roundw
      case rel => exact ⟨k + 1, by omega, by go_num, by rw [HT.out]; exact OwnI.snoc ho, HB.out⟩
      case measure => simp [intOf]; omega
    · have HE := Lib.hid (show a.take k = a from List.take_of_length_le (by omega))
      have HE2 := Lib.hid (show b.take k = b from List.take_of_length_le (by rw [← HAB.out]; omega))
      go_wp2
      go_ret
      exact RetI.mk (by rw [HE.out, HE2.out] at hown; exact hown) hb

set_option maxHeartbeats 400000 in
theorem c_spec_btXor {va vb : Value} {a b : List Int} {w : World} (ha : Ints w va a) (hb' : Ints w vb b) (hl : a.length ≤ 2097152) (hab : a.length = b.length)
    (hxa : ∀ x ∈ a, 0 ≤ x ∧ x ≤ 9223372036854775807) (hxb : ∀ x ∈ b, 0 ≤ x ∧ x ≤ 9223372036854775807) :
    Calls Tryz.prog 67 #[va, vb] w (RetI w (xorsM a b)) := by
  obtain ⟨A, c, rfl, hlc, hcm, hrd⟩ := ha
  obtain ⟨A', c', rfl, hlc', hcm', hrd'⟩ := hb'
  rw [← hab] at hlc' ⊢
  have HAB := Lib.hid hab
  clear hab
  go_enter Tryz.func67, Tryz.ntmps67
  go_wp2
  go_loopw [5, 10] (fun u i wr => ∃ k : Nat, k ≤ a.length ∧ i = .int .i64 k ∧ OwnI wr w.heap.size u (xorsM (a.take k) (b.take k)) ∧ Below w.heap.size w wr) (fun _ i _ => a.length - (intOf i).toNat)
  case atStart => exact ⟨0, Nat.zero_le _, rfl, OwnI.nil _ _, Below.refl _ _⟩
  case round =>
    obtain ⟨k, hk, rfl, hown, hb⟩ := hrel
    by_cases hlt : k < a.length
    · obtain ⟨b1, o1, x, rfl, hbl, hxk, hcell⟩ := (hrd.below hb).int_at hlt
      obtain ⟨b2, o2, y, rfl, hbl2, hyk, hcell2⟩ := (hrd'.below hb).int_at (k := k) (by rw [← HAB.out]; exact hlt)
      have hx1 := hxa x (List.mem_of_getElem? hxk)
      have hy1 := hxb y (List.mem_of_getElem? hyk)
      have hxor := bits_xor hx1.1 hy1.1 hx1.2 hy1.2
      have HT := Lib.hid (xorsM_snoc hxk hyk)
      have hlen : (xorsM (a.take k) (b.take k)).length ≤ a.length := by simp [xorsM]; omega
      have hsz := hb.size
      clear hxk hyk hxa hxb
      go_wp2_with (at_builtin; refine wp_app1 (B := w.heap.size) rfl rfl Tryz.underlying24 info_int rfl hown rfl rfl rfl (by unfold maxLen; omega) (by omega) hsz ?_; intro v' w1 ho hg hfr)
      have HB := Lib.hid (below_app hb hown hg (Nat.le_refl _))
      clear hxor
      go_roundw
      case rel => exact ⟨k + 1, by omega, by go_num, by rw [HT.out]; exact OwnI.snoc ho, HB.out⟩
      case measure => simp [intOf]; omega
    · have HE := Lib.hid (show a.take k = a from List.take_of_length_le (by omega))
      have HE2 := Lib.hid (show b.take k = b from List.take_of_length_le (by rw [← HAB.out]; omega))
      go_wp2
      go_ret
      exact RetI.mk (by rw [HE.out, HE2.out] at hown; exact hown) hb
end Go.Proofs.YtejeppjmlgfiaaaGreat
