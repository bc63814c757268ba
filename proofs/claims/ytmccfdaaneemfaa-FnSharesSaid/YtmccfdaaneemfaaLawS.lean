/- Contracts of the laws' comparison of lists that are equal, and the plain laws of shares. Conditions: the lists are short. -/
import Derived.Test.YtmccfdaaneemfaaShrE
import Derived.Test.YtmccfdaaneemfaaShrF
namespace Go.Proofs.Ytmccfdaaneemfaa
open Go.RowKit
set_option linter.unusedVariables false

set_option maxHeartbeats 1000000 in
theorem c_laws_sameInts {va vb : Value} {l : List Int} {w : World} (ha : Ints w va l) (hb' : Ints w vb l) (hl : l.length ≤ 2097152) :
    Calls Try.prog 28 #[va, vb] w fun e w' => e = .returned (.bool true) ∧ Below w.heap.size w w' := by
  obtain ⟨A, c, rfl, hlc, hcm, hrd⟩ := ha
  obtain ⟨A', c', rfl, hlc', hcm', hrd'⟩ := hb'
  go_enter Try.func28, Try.ntmps28
  go_wp2
  go_loopw [13] (fun i wr => ∃ k : Nat, k ≤ l.length ∧ i = .int .i64 k ∧ Hid (Below w.heap.size w wr)) (fun i _ => l.length - (intOf i).toNat)
  case atStart => exact ⟨0, Nat.zero_le _, rfl, Lib.hid (Below.refl _ _)⟩
  case round =>
    obtain ⟨k, hk, rfl, HB⟩ := hrel
    obtain ⟨wa, rfl⟩ : ∃ W, W = wr := ⟨wr, rfl⟩
    by_cases hlt : k < l.length
    · obtain ⟨b1, o1, x, rfl, hbl, hxk, hcell⟩ := hrd.int_at hlt
      obtain ⟨b2, o2, y, rfl, hbl2, hyk, hcell2⟩ := hrd'.int_at hlt
      obtain rfl : x = y := by rw [hxk] at hyk; injection hyk
      have e1 := (HB.out.cell (p := ⟨b1, o1 + k, none⟩) hbl).trans hcell
      have e2 := (HB.out.cell (p := ⟨b2, o2 + k, none⟩) hbl2).trans hcell2
      have hk0 : (0 : Int) ≤ (k : Int) := Int.natCast_nonneg _
      have hk1 : (k : Int) < (l.length : Int) := by omega
      clear hxk hyk hcell hcell2
      go_wp2_with fail
      go_region_held3 (fun w' => w'.cell? ⟨b1, o1 + k, none⟩ = some (.int .i64 x) ∧ w'.cell? ⟨b2, o2 + k, none⟩ = some (.int .i64 x)) (exact ⟨e1, e2⟩) (fail)
      go_wp2
      go_roundw
      case rel => exact ⟨k + 1, by omega, by go_num, Lib.hid HB.out.drew⟩
      case measure => simp [intOf]; omega
    · go_wp2
      go_ret
      exact ⟨rfl, HB.out⟩
set_option maxHeartbeats 1000000 in
theorem c_laws_qInts {va vb : Value} {l : List Int} {w : World} (ha : Ints w va l) (hb' : Ints w vb l) (hl : l.length ≤ 2097152) :
    Calls Try.prog 62 #[va, vb] w fun e w' => e = .returned (.bool true) ∧ Below w.heap.size w w' := by
  obtain ⟨A, c, rfl, hlc, hcm, hrd⟩ := ha
  obtain ⟨A', c', rfl, hlc', hcm', hrd'⟩ := hb'
  go_enter Try.func62, Try.ntmps62
  go_wp2
  go_loopw [13] (fun i wr => ∃ k : Nat, k ≤ l.length ∧ i = .int .i64 k ∧ Hid (Below w.heap.size w wr)) (fun i _ => l.length - (intOf i).toNat)
  case atStart => exact ⟨0, Nat.zero_le _, rfl, Lib.hid (Below.refl _ _)⟩
  case round =>
    obtain ⟨k, hk, rfl, HB⟩ := hrel
    obtain ⟨wa, rfl⟩ : ∃ W, W = wr := ⟨wr, rfl⟩
    by_cases hlt : k < l.length
    · obtain ⟨b1, o1, x, rfl, hbl, hxk, hcell⟩ := hrd.int_at hlt
      obtain ⟨b2, o2, y, rfl, hbl2, hyk, hcell2⟩ := hrd'.int_at hlt
      obtain rfl : x = y := by rw [hxk] at hyk; injection hyk
      have e1 := (HB.out.cell (p := ⟨b1, o1 + k, none⟩) hbl).trans hcell
      have e2 := (HB.out.cell (p := ⟨b2, o2 + k, none⟩) hbl2).trans hcell2
      have hk0 : (0 : Int) ≤ (k : Int) := Int.natCast_nonneg _
      have hk1 : (k : Int) < (l.length : Int) := by omega
      clear hxk hyk hcell hcell2
      go_wp2_with fail
      go_region_held3 (fun w' => w'.cell? ⟨b1, o1 + k, none⟩ = some (.int .i64 x) ∧ w'.cell? ⟨b2, o2 + k, none⟩ = some (.int .i64 x)) (exact ⟨e1, e2⟩) (fail)
      go_wp2
      go_roundw
      case rel => exact ⟨k + 1, by omega, by go_num, Lib.hid HB.out.drew⟩
      case measure => simp [intOf]; omega
    · go_wp2
      go_ret
      exact ⟨rfl, HB.out⟩
theorem c_impl_JoinSum {va vb : Value} {a b : List Int} {p : Int} {w : World} (ha : Ints w va a) (hb' : Ints w vb b) (hla : a.length ≤ 2097152) (hlb : b.length ≤ 2097152) :
    Calls Try.prog 35 #[.int .i64 p, va, vb] w (RetIB w (addOM p a b)) := by
  have HA := Lib.hid ha
  have HB := Lib.hid hb'
  obtain ⟨A, c, rfl, -⟩ := ha
  obtain ⟨A', c', rfl, -⟩ := hb'
  go_enter Try.func35, Try.ntmps35
  go_wp2_with fail
  refine (c_impl_AddShares HA.out HB.out hla hlb).mono ?_
  rintro e w1 ⟨u, rfl, hu, hb1⟩
  go_wp2
  go_ret2
  exact ⟨_, rfl, hu, hb1⟩
theorem add_length {p : Int} {a b : List Int} (h : a.length = b.length) : (addM p a b).length = a.length := by unfold addM; rw [List.length_zipWith, h, Nat.min_self]
theorem add_bd {p : Int} (hp : 0 < p) (a b : List Int) : ∀ z ∈ addM p a b, 0 ≤ z ∧ z < p := by
  intro z hz
  unfold addM at hz
  obtain ⟨i, hi, rfl⟩ := List.getElem_of_mem hz
  rw [List.getElem_zipWith]
  exact mod_bd _ hp
theorem addOM_some {p : Int} {a b : List Int} (ha : shB p a = true) (hb : shB p b = true) (h : a.length = b.length) : addOM p a b = some (addM p a b) := by
  unfold addOM; rw [ha, hb, decide_eq_true (by omega : (a.length : Int) = (b.length : Int))]; rfl
theorem twice_eq {p x r : Int} : ((r + r) % p + ((x - r) % p + (x - r) % p) % p) % p = 2 * x % p := by
  rw [← Int.add_emod, ← Int.add_assoc, Int.add_emod _ ((x - r) % p), Int.emod_emod, ← Int.add_emod, Int.add_right_comm (r + r), Int.add_emod _ ((x - r) % p), Int.emod_emod, ← Int.add_emod]
  congr 1; omega
/-- What the shares of values say. -/
theorem split_law {p key : Int} {l r s : List Int} (h : splitM p key l = some (r, s)) : addOM p r s = some l ∧ addOM p r r = some (addM p r r) ∧ addOM p s s = some (addM p s s) ∧
    ∃ t, addOM p (addM p r r) (addM p s s) = some t ∧ t.length = l.length ∧ (∀ (i : Nat) (x : Int), l[i]? = some x → t[i]? = some (2 * x % p)) ∧ (2 ≤ p ∧ p ≤ 251) ∧ (∀ x ∈ l, 0 ≤ x ∧ x < p) ∧ r.length = l.length ∧ s.length = l.length ∧ l.length ≤ 40 ∧ (addM p r r).length = l.length ∧ (addM p s s).length = l.length := by
  unfold splitM at h
  split at h
  case isFalse => cases h
  case isTrue hc =>
    simp only [Bool.and_eq_true] at hc
    injection h with h
    injection h with h1 h2
    have hs := shB_of hc.1
    have hpb := fldB_bd hs.1
    have hrl : r.length = l.length := by rw [← h1, rndN_length]
    have hrb : ∀ z ∈ r, 0 ≤ z ∧ z < p := by rw [← h1]; exact rndN_bd (by omega) key _
    rw [h1] at h2
    have hsl : s.length = l.length := by rw [← h2, combN_length _ _ _ _ hrl.symm]
    have hsb : ∀ z ∈ s, 0 ≤ z ∧ z < p := by rw [← h2]; exact combN_bd (by omega) _ _ _
    have sr := shB_mk hs.1 hrb (by omega)
    have ss := shB_mk hs.1 hsb (by omega)
    have al1 := add_length (p := p) (a := r) (b := r) rfl
    have al2 := add_length (p := p) (a := s) (b := s) rfl
    have sa := shB_mk hs.1 (add_bd (p := p) (by omega) r r) (by omega)
    have sb := shB_mk hs.1 (add_bd (p := p) (by omega) s s) (by omega)
    refine ⟨?_, addOM_some sr sr rfl, addOM_some ss ss rfl, addM p (addM p r r) (addM p s s), addOM_some sa sb (by omega), ?_, ?_, hpb, hs.2.1, hrl, hsl, hs.2.2, by omega, by omega⟩
    · rw [addOM_some sr ss (by omega)]
      congr 1
      refine List.ext_getElem (by rw [add_length (by omega)]; omega) fun i h3 h4 => ?_
      subst h2
      simp only [addM, combN, List.getElem_zipWith]
      have hx := hs.2.1 l[i] (List.getElem_mem h4)
      rw [Int.add_emod_emod, Int.add_comm, Int.sub_add_cancel]
      exact Int.emod_eq_of_lt hx.1 hx.2
    · rw [add_length (by omega)]; omega
    · intro i x hx
      have hi := (List.getElem?_eq_some_iff.1 hx).1
      have hxe : l[i] = x := (List.getElem?_eq_some_iff.1 hx).2
      have hlen : i < (addM p (addM p r r) (addM p s s)).length := by rw [add_length (by omega)]; omega
      rw [List.getElem?_eq_getElem hlen]
      subst h2
      simp only [addM, combN, List.getElem_zipWith, hxe]
      rw [twice_eq]
theorem xor_undo {x y : Int} (hx : 0 ≤ x ∧ x ≤ 1) (hy : 0 ≤ y ∧ y ≤ 1) : xorI x y = xorI x y ∧ xorI y (xorI x y) = x := by
  rcases (show x = 0 ∨ x = 1 by omega) with rfl | rfl <;> rcases (show y = 0 ∨ y = 1 by omega) with rfl | rfl <;> decide
theorem xor_undo2 {x y z : Int} (hx : 0 ≤ x ∧ x ≤ 1) (hy : 0 ≤ y ∧ y ≤ 1) (hz : 0 ≤ z ∧ z ≤ 1) : xorI (xorI y z) (xorI (xorI x y) z) = x := by
  rcases (show x = 0 ∨ x = 1 by omega) with rfl | rfl <;> rcases (show y = 0 ∨ y = 1 by omega) with rfl | rfl <;> rcases (show z = 0 ∨ z = 1 by omega) with rfl | rfl <;> decide
theorem xorsM_length {a b : List Int} (h : a.length = b.length) : (xorsM a b).length = a.length := by unfold xorsM; rw [List.length_zipWith, h, Nat.min_self]
theorem xorsM_bits {a b : List Int} (ha : ∀ x ∈ a, 0 ≤ x ∧ x ≤ 1) (hb : ∀ x ∈ b, 0 ≤ x ∧ x ≤ 1) : ∀ x ∈ xorsM a b, 0 ≤ x ∧ x ≤ 1 := by
  intro z hz
  unfold xorsM at hz
  obtain ⟨i, hi, rfl⟩ := List.getElem_of_mem hz
  rw [List.getElem_zipWith]
  exact bit_xor (ha _ (List.getElem_mem _)) (hb _ (List.getElem_mem _))
theorem bitsB_mk {l : List Int} (h : ∀ x ∈ l, 0 ≤ x ∧ x ≤ 1) (hl : l.length ≤ 64) : bitsB 64 l = true := by
  unfold bitsB allB
  rw [decide_eq_true (by omega : (l.length : Int) ≤ 64), Bool.true_and]
  exact List.all_eq_true.2 fun x hx => inB_mk (h x hx).1 (h x hx).2
/-- What the shares of bits say. -/
theorem splitB_law {key : Int} {l e f : List Int} (h : splitBM key l = some (e, f)) : ∃ g k, refBM key e f = some (g, k) ∧ xorBM g k = some l ∧ e.length ≤ 64 ∧ f.length ≤ 64 ∧ g.length ≤ 64 ∧ k.length ≤ 64 ∧ l.length ≤ 64 := by
  unfold splitBM at h
  split at h
  case isFalse => cases h
  case isTrue hc =>
    simp only [Bool.and_eq_true] at hc
    injection h with h
    injection h with h1 h2
    have hl : l.length ≤ 64 := by have := (bitsB_bd hc.2).1; omega
    have hlb : ∀ x ∈ l, 0 ≤ x ∧ x ≤ 1 := by have := hc.2; simp only [bitsB, Bool.and_eq_true] at this; exact allB_bd' this.2
    have hel : e.length = l.length := by rw [← h1, bitN_length]
    have heb : ∀ x ∈ e, 0 ≤ x ∧ x ≤ 1 := by rw [← h1]; exact bitN_bd _ _
    rw [h1] at h2
    have hfl : f.length = l.length := by rw [← h2, xorsM_length hel.symm]
    have hfb : ∀ x ∈ f, 0 ≤ x ∧ x ≤ 1 := by rw [← h2]; exact xorsM_bits hlb heb
    have hrl := bitN_length [key, 12] e.length
    have hrb := bitN_bd [key, 12] e.length
    have gl := xorsM_length (a := e) (b := bitN [key, 12] e.length) hrl.symm
    have kl := xorsM_length (a := f) (b := bitN [key, 12] e.length) (by omega)
    refine ⟨xorsM e (bitN [key, 12] e.length), xorsM f (bitN [key, 12] e.length), ?_, ?_, by omega, by omega, by omega, by omega, hl⟩
    · unfold refBM; rw [hc.1, bitsB_mk heb (by omega), bitsB_mk hfb (by omega), decide_eq_true (by omega : (e.length : Int) = (f.length : Int))]; rfl
    · unfold xorBM
      rw [bitsB_mk (xorsM_bits heb hrb) (by omega), bitsB_mk (xorsM_bits hfb hrb) (by omega), decide_eq_true (by omega : ((xorsM e (bitN [key, 12] e.length)).length : Int) = ((xorsM f (bitN [key, 12] e.length)).length : Int))]
      simp only [Bool.and_true, if_true]
      congr 1
      refine List.ext_getElem (by rw [xorsM_length (by omega)]; omega) fun i h3 h4 => ?_
      generalize bitN [key, 12] e.length = z at *
      subst h2
      simp only [xorsM, List.getElem_zipWith]
      exact xor_undo2 (hlb _ (List.getElem_mem _)) (heb _ (List.getElem_mem _)) (hrb _ (List.getElem_mem _))
end Go.Proofs.Ytmccfdaaneemfaa
