/- Contracts of bits' shares: split, refreshed, joined. Conditions: the lists are short. -/
import Derived.Test.YtmccfdaaneemfaaBts
import Derived.Test.YtmccfdaaneemfaaShrC
import Derived.Deep.RegionLaw
namespace Go.Proofs.Ytmccfdaaneemfaa
open Go.RowKit
set_option linter.unusedVariables false

def splitBM (key : Int) (l : List Int) : Option (List Int × List Int) := if inB key 0 1000000000 && bitsB 64 l then some (bitN [key, 11] l.length, xorsM l (bitN [key, 11] l.length)) else none
def refBM (key : Int) (a b : List Int) : Option (List Int × List Int) := if inB key 0 1000000000 && bitsB 64 a && bitsB 64 b && decide ((a.length : Int) = (b.length : Int)) then some (xorsM a (bitN [key, 12] a.length), xorsM b (bitN [key, 12] a.length)) else none
def xorBM (a b : List Int) : Option (List Int) := if bitsB 64 a && bitsB 64 b && decide ((a.length : Int) = (b.length : Int)) then some (xorsM a b) else none
theorem allB_bd' {l : List Int} {lo hi : Int} (h : allB l lo hi = true) : ∀ x ∈ l, lo ≤ x ∧ x ≤ hi := fun x hx => inB_bd (List.all_eq_true.1 h x hx)
theorem bitsB_bd {m : Int} {l : List Int} (h : bitsB m l = true) : (l.length : Int) ≤ m ∧ ∀ x ∈ l, 0 ≤ x ∧ x ≤ 9223372036854775807 := by
  simp only [bitsB, Bool.and_eq_true, decide_eq_true_eq] at h
  exact ⟨h.1, fun x hx => by have := allB_bd' h.2 x hx; omega⟩
theorem own_at {w : World} {B : Nat} {v : Value} {l : List Int} (h : OwnI w B v l) (hl : l ≠ []) : ∃ g c, v = .slice (some ⟨g, 0, none⟩) l.length c ∧ B ≤ g ∧ g < w.heap.size ∧ ∀ j x, l[j]? = some x → w.cell? ⟨g, j, none⟩ = some (.int .i64 x) := by
  obtain ⟨g, c, rfl, h1, h2, h3, h4⟩ := own_pos h (List.length_pos_iff.2 hl)
  refine ⟨g, c, rfl, h1, h2, fun j x hx => ?_⟩
  have hj := (List.getElem?_eq_some_iff.1 hx).1
  have := h.cellAt j (by simpa using hj)
  rw [this]; simp [hx]

theorem bitN_i64 (l : List Int) (n : Nat) : ∀ x ∈ bitN l n, 0 ≤ x ∧ x ≤ 9223372036854775807 := fun x hx => by have := bitN_bd l n x hx; omega
theorem key_bd {key c : Int} (hk : 0 ≤ key ∧ key ≤ 1000000000) (hc : 0 ≤ c ∧ c ≤ 100) : ∀ x ∈ [key, c], -1000000000000 ≤ x ∧ x ≤ 1000000000000 := by intro x hx; simp at hx; omega
theorem bit_xor {x y : Int} (hx : 0 ≤ x ∧ x ≤ 1) (hy : 0 ≤ y ∧ y ≤ 1) : 0 ≤ xorI x y ∧ xorI x y ≤ 1 := by
  rcases (show x = 0 ∨ x = 1 by omega) with rfl | rfl <;> rcases (show y = 0 ∨ y = 1 by omega) with rfl | rfl <;> decide
set_option maxRecDepth 100000 in
set_option maxHeartbeats 2000000 in
theorem c_impl_XorBits {va vb : Value} {a b : List Int} {w : World} (ha : Ints w va a) (hb' : Ints w vb b) (hla : a.length ≤ 1000) (hlb : b.length ≤ 1000) :
    Calls Try.prog 102 #[va, vb] w (RetIB w (xorBM a b)) := by
  have HA := Lib.hid ha
  have HB := Lib.hid hb'
  obtain ⟨A, c, rfl, hlc, hcm, hrd⟩ := ha
  obtain ⟨A', c', rfl, hlc', hcm', hrd'⟩ := hb'
  rcases h1 : bitsB 64 a with _ | _
  · have HM := Lib.hid (show xorBM a b = none by unfold xorBM; rw [h1]; rfl)
    go_enter Try.func102, Try.ntmps102
    go_wp2_with fail
    refine (c_impl_AreBits HA.out (by omega)).mono ?_
    rintro e w1 ⟨rfl, hb1⟩
    rw [h1]
    have HB1 := Lib.hid hb1
    clear hb1
    go_wp2
    go_ret2; rw [HM.out]; exact RetIB.no_below HB1.out
  rcases h2 : bitsB 64 b with _ | _
  · have HM := Lib.hid (show xorBM a b = none by unfold xorBM; rw [h1, h2]; rfl)
    go_enter Try.func102, Try.ntmps102
    go_wp2_with fail
    refine (c_impl_AreBits HA.out (by omega)).mono ?_
    rintro e w1 ⟨rfl, hb1⟩
    rw [h1]
    have HB1 := Lib.hid hb1
    clear hb1
    go_wp2_with fail
    refine (c_impl_AreBits (HB.out.below HB1.out) (by omega)).mono ?_
    rintro e w2 ⟨rfl, hb2⟩
    rw [h2]
    replace HB1 := Lib.hid (below_step HB1.out hb2)
    clear hb2
    go_wp2
    go_ret2; rw [HM.out]; exact RetIB.no_below HB1.out
  rcases hn : ((a.length : Int) != (b.length : Int)) with _ | _
  rotate_left
  · have HM := Lib.hid (show xorBM a b = none by
      have hab : ¬ (a.length : Int) = (b.length : Int) := by simpa using hn
      unfold xorBM; rw [decide_eq_false hab]; simp)
    go_enter Try.func102, Try.ntmps102
    go_wp2_with fail
    refine (c_impl_AreBits HA.out (by omega)).mono ?_
    rintro e w1 ⟨rfl, hb1⟩
    rw [h1]
    have HB1 := Lib.hid hb1
    clear hb1
    go_wp2_with fail
    refine (c_impl_AreBits (HB.out.below HB1.out) (by omega)).mono ?_
    rintro e w2 ⟨rfl, hb2⟩
    rw [h2]
    replace HB1 := Lib.hid (below_step HB1.out hb2)
    clear hb2
    go_wp2
    go_ret2; rw [HM.out]; exact RetIB.no_below HB1.out
  have hab : (a.length : Int) = (b.length : Int) := by simpa using hn
  have HM := Lib.hid (show xorBM a b = some (xorsM a b) by unfold xorBM; rw [h1, h2, decide_eq_true hab]; rfl)
  have HXA := Lib.hid (bitsB_bd h1).2
  have HXB := Lib.hid (bitsB_bd h2).2
  have HAB := Lib.hid (show a.length = b.length by omega)
  have ha64 : a.length ≤ 64 := by have := (bitsB_bd h1).1; omega
  go_enter Try.func102, Try.ntmps102
  go_wp2_with fail
  refine (c_impl_AreBits HA.out (by omega)).mono ?_
  rintro e w1 ⟨rfl, hb1⟩
  rw [h1]
  have HB1 := Lib.hid hb1
  clear hb1
  go_wp2_with fail
  refine (c_impl_AreBits (HB.out.below HB1.out) (by omega)).mono ?_
  rintro e w2 ⟨rfl, hb2⟩
  rw [h2]
  replace HB1 := Lib.hid (below_step HB1.out hb2)
  clear hb2 hab
  go_wp2_with fail
  refine (c_slices_Clone (HA.out.below HB1.out) (by omega)).mono ?_
  rintro e w3 ⟨u, rfl, hu, hb3⟩
  obtain ⟨Au, cu, rfl, -⟩ := hu.ints
  have HU := Lib.hid (hu.mono HB1.out.size)
  have HB3 := Lib.hid (below_step HB1.out hb3)
  clear hu hb3 h1 h2 hn
  go_wp2
  go_loopw [27] (fun i wr => ∃ k : Nat, k ≤ a.length ∧ i = .int .i64 k ∧ Hid (OwnI wr w.heap.size (.slice Au a.length cu) (xorsM (a.take k) (b.take k) ++ a.drop k)) ∧ Hid (Below w.heap.size w wr)) (fun i _ => a.length - (intOf i).toNat)
  case atStart => exact ⟨0, Nat.zero_le _, rfl, Lib.hid (by simpa [xorsM] using HU.out), HB3⟩
  case round =>
    obtain ⟨k, hk, rfl, HO, HB0⟩ := hrel
    obtain ⟨wa, rfl⟩ : ∃ W, W = wr := ⟨wr, rfl⟩
    by_cases hlt : k < a.length
    · obtain ⟨b2, o2, y, rfl, hbl2, hyk, hcell2⟩ := hrd'.int_at (k := k) (by rw [← HAB.out]; exact hlt)
      have hxk : a[k]? = some a[k] := List.getElem?_eq_getElem hlt
      obtain ⟨x, hx⟩ : ∃ x, a[k] = x := ⟨_, rfl⟩
      rw [hx] at hxk
      have hpl : (xorsM (a.take k) (b.take k)).length = k := by unfold xorsM; simp; have := HAB.out; omega
      have hol : (xorsM (a.take k) (b.take k) ++ a.drop k)[k]? = some x := by rw [List.getElem?_append_right (by omega), hpl, Nat.sub_self, List.getElem?_drop]; simpa using hxk
      obtain ⟨g, cg, eg, -, hgl, hcg⟩ := own_at HO.out (by intro e; rw [e] at hol; simp at hol)
      injection eg with e1 e2 e3
      subst e1
      have hc1 := hcg k x hol
      have e2' := (HB0.out.cell (p := ⟨b2, o2 + k, none⟩) hbl2).trans hcell2
      have hx1 := HXA.out x (List.mem_of_getElem? hxk)
      have hy1 := HXB.out y (List.mem_of_getElem? hyk)
      have hxor := bits_xor hx1.1 hy1.1 hx1.2 hy1.2
      have HT := Lib.hid (xorsM_snoc hxk hyk)
      have HPL := Lib.hid hpl
      have hfz := OwnI.free HO.out k
      have hk0 : (0 : Int) ≤ (k : Int) := Int.natCast_nonneg _
      have hk1 : (k : Int) < (a.length : Int) := by omega
      have hk2 : (k : Int) < (b.length : Int) := by have := HAB.out; omega
      have HLT := Lib.hid hlt
      clear hcell2 hxk hyk hpl hol hcg e2 e3 hx
      go_wp2_with fail
      go_region_law (fail)
      all_goals
        go_wp2
        go_roundw
        case rel =>
          refine ⟨k + 1, by omega, by go_num, ?_, ?_⟩
          · have h := (OwnI.put (own_drew HO.out) k (xorI x y))
            rw [set_mid HPL.out (by exact HLT.out), ← HT.out] at h
            exact Lib.hid h
          · exact Lib.hid (HB0.out.drew.setCell (p := ⟨g, k, none⟩) (HO.out.ge g rfl) _)
        case measure => simp [intOf]; omega
    · obtain rfl : k = a.length := by omega
      have HE : xorsM (a.take a.length) (b.take a.length) ++ a.drop a.length = xorsM a b := by rw [List.take_of_length_le (Nat.le_refl _), List.take_of_length_le (by rw [HAB.out]; exact Nat.le_refl _), List.drop_length, List.append_nil]
      have HO2 := HO.out
      rw [HE] at HO2
      replace HO2 := Lib.hid HO2
      clear HE HO
      go_wp2
      go_ret2; rw [HM.out]
      exact RetIB.yes HO2.out HB0.out
theorem c_impl_JoinBits {va vb : Value} {a b : List Int} {w : World} (ha : Ints w va a) (hb' : Ints w vb b) (hla : a.length ≤ 1000) (hlb : b.length ≤ 1000) :
    Calls Try.prog 48 #[va, vb] w (RetIB w (xorBM a b)) := by
  have HA := Lib.hid ha
  have HB := Lib.hid hb'
  obtain ⟨A, c, rfl, -⟩ := ha
  obtain ⟨A', c', rfl, -⟩ := hb'
  go_enter Try.func48, Try.ntmps48
  go_wp2_with fail
  refine (c_impl_XorBits HA.out HB.out hla hlb).mono ?_
  rintro e w1 ⟨u, rfl, hu, hb1⟩
  go_wp2
  go_ret2
  exact ⟨_, rfl, hu, hb1⟩
set_option maxHeartbeats 1000000 in
theorem c_impl_SplitBits {v : Value} {l : List Int} {key : Int} {w : World} (h : Ints w v l) (hl : l.length ≤ 1000) :
    Calls Try.prog 45 #[.int .i64 key, v] w (RetI2B w (splitBM key l)) := by
  have H := Lib.hid h
  obtain ⟨A, c, rfl, -⟩ := h
  rcases hk : inB key 0 1000000000 with _ | _
  · have HM := Lib.hid (show splitBM key l = none by unfold splitBM; rw [hk]; rfl)
    go_enter Try.func45, Try.ntmps45
    go_wp2_with (go_at_call 90; refine (c_impl_isKey).mono ?_; rintro e w' ⟨rfl, rfl⟩)
    go_ret3; rw [HM.out]; exact RetI2B.no (Below.refl _ _)
  rcases hs : bitsB 64 l with _ | _
  · have HM := Lib.hid (show splitBM key l = none by unfold splitBM; rw [hs, Bool.and_false]; rfl)
    go_enter Try.func45, Try.ntmps45
    go_wp2_with (go_at_call 90; refine (c_impl_isKey).mono ?_; rintro e w' ⟨rfl, rfl⟩)
    refine (c_impl_AreBits H.out (by omega)).mono ?_
    rintro e w1 ⟨rfl, hb1⟩
    rw [hs]
    have HB1 := Lib.hid hb1
    clear hb1
    go_wp2
    go_ret3; rw [HM.out]; exact RetI2B.no HB1.out
  have HM := Lib.hid (show splitBM key l = some (bitN [key, 11] l.length, xorsM l (bitN [key, 11] l.length)) by unfold splitBM; rw [hs, hk]; rfl)
  have hkb := inB_bd hk
  have hl64 : l.length ≤ 64 := by have := (bitsB_bd hs).1; omega
  have HX := Lib.hid (bitsB_bd hs).2
  have HKX := Lib.hid (key_bd (c := 11) hkb (by omega))
  go_enter Try.func45, Try.ntmps45
  go_wp2_with (go_at_call 90; refine (c_impl_isKey).mono ?_; rintro e w' ⟨rfl, rfl⟩)
  refine (c_impl_AreBits H.out (by omega)).mono ?_
  rintro e w1 ⟨rfl, hb1⟩
  rw [hs]
  have HB1 := Lib.hid hb1
  clear hb1
  go_wp2_with fail
  refine (c_impl_bitsFrom (ints_lit w1 [key, 11] _ rfl (by simp)) (by simp) HKX.out (by omega)).mono ?_
  rintro e w2 ⟨u, rfl, hu, hb2⟩
  have HU := Lib.hid hu.ints
  obtain ⟨A1, c1, rfl, -⟩ := hu.ints
  have HB2 := Lib.hid (below_step HB1.out (lit_trans hb2))
  clear hu hb2
  go_wp2_with fail
  refine (c_impl_xored (H.out.below HB2.out) HU.out (by omega) (by rw [bitN_length]) HX.out (bitN_i64 _ _)).mono ?_
  rintro e w3 ⟨u2, rfl, hu2, hb3⟩
  have HU2 := Lib.hid hu2.ints
  obtain ⟨A2, c2, rfl, -⟩ := hu2.ints
  have HB3 := Lib.hid (below_step HB2.out hb3)
  replace HU := Lib.hid (HU.out.below hb3)
  clear hu2 hb3
  go_wp2
  go_ret3; rw [HM.out]
  exact ⟨_, _, rfl, HU.out, HU2.out, HB3.out⟩
set_option maxHeartbeats 1000000 in
theorem c_spec_shSplit {v : Value} {l : List Int} {key : Int} {w : World} (h : Ints w v l) (hl : l.length ≤ 64) (hx : ∀ x ∈ l, 0 ≤ x ∧ x ≤ 9223372036854775807) (hkb : 0 ≤ key ∧ key ≤ 1000000000) :
    Calls Try.prog 101 #[.int .i64 key, v] w fun e w' => ∃ u v, e = .returned (.tuple #[u, v]) ∧ Ints w' u (bitN [key, 11] l.length) ∧ Ints w' v (xorsM l (bitN [key, 11] l.length)) ∧ Below w.heap.size w w' := by
  have H := Lib.hid h
  have HX := Lib.hid hx
  have HKX := Lib.hid (key_bd (c := 11) hkb (by omega))
  obtain ⟨A, c, rfl, -⟩ := h
  clear hx
  go_enter Try.func101, Try.ntmps101
  go_wp2_with fail
  refine (c_spec_dgBits (ints_lit w [key, 11] _ rfl (by simp)) (by simp) HKX.out (by omega)).mono ?_
  rintro e w1 ⟨u, rfl, hu, hb1⟩
  have HU := Lib.hid hu.ints
  obtain ⟨A1, c1, rfl, -⟩ := hu.ints
  have HB1 := Lib.hid (lit_trans hb1)
  clear hu hb1
  go_wp2_with fail
  refine (c_spec_btXor (H.out.below HB1.out) HU.out (by omega) (by rw [bitN_length]) HX.out (bitN_i64 _ _)).mono ?_
  rintro e w2 ⟨u2, rfl, hu2, hb2⟩
  have HU2 := Lib.hid hu2.ints
  obtain ⟨A2, c2, rfl, -⟩ := hu2.ints
  have HB2 := Lib.hid (below_step HB1.out hb2)
  replace HU := Lib.hid (HU.out.below hb2)
  clear hu2 hb2
  go_wp2
  go_ret2
  exact ⟨_, _, rfl, HU.out, HU2.out, HB2.out⟩
set_option maxHeartbeats 1000000 in
theorem c_spec_SplitBits {v : Value} {l : List Int} {key : Int} {w : World} (h : Ints w v l) (hl : l.length ≤ 1000) :
    Calls Try.prog 46 #[.int .i64 key, v] w (RetI2B w (splitBM key l)) := by
  have H := Lib.hid h
  obtain ⟨A, c, rfl, -⟩ := h
  rcases hk : inB key 0 1000000000 with _ | _
  · have HM := Lib.hid (show splitBM key l = none by unfold splitBM; rw [hk]; rfl)
    go_enter Try.func46, Try.ntmps46
    go_wp2_with (go_at_call 93; refine (c_spec_shKey).mono ?_; rintro e w' ⟨rfl, rfl⟩)
    go_ret3; rw [HM.out]; exact RetI2B.no (Below.refl _ _)
  rcases hs : bitsB 64 l with _ | _
  · have HM := Lib.hid (show splitBM key l = none by unfold splitBM; rw [hs, Bool.and_false]; rfl)
    go_enter Try.func46, Try.ntmps46
    go_wp2_with (go_at_call 93; refine (c_spec_shKey).mono ?_; rintro e w' ⟨rfl, rfl⟩)
    refine (c_spec_AreBits H.out (by omega)).mono ?_
    rintro e w1 ⟨rfl, rfl⟩
    rw [hs]
    have HB1 := Lib.hid (Below.refl w.heap.size w)
    skip
    go_wp2
    go_ret3; rw [HM.out]; exact RetI2B.no HB1.out
  have HM := Lib.hid (show splitBM key l = some (bitN [key, 11] l.length, xorsM l (bitN [key, 11] l.length)) by unfold splitBM; rw [hs, hk]; rfl)
  have hkb := inB_bd hk
  have hl64 : l.length ≤ 64 := by have := (bitsB_bd hs).1; omega
  have HX := Lib.hid (bitsB_bd hs).2
  have HKX := Lib.hid (key_bd (c := 11) hkb (by omega))
  go_enter Try.func46, Try.ntmps46
  go_wp2_with (go_at_call 93; refine (c_spec_shKey).mono ?_; rintro e w' ⟨rfl, rfl⟩)
  refine (c_spec_AreBits H.out (by omega)).mono ?_
  rintro e w1 ⟨rfl, rfl⟩
  rw [hs]
  have HB1 := Lib.hid (Below.refl w.heap.size w)
  skip
  go_wp2_with fail
  refine (c_spec_shSplit H.out hl64 HX.out hkb).mono ?_
  rintro e w2 ⟨u, v, rfl, hu, hv, hb2⟩
  have HU := Lib.hid hu
  have HV := Lib.hid hv
  have HB := Lib.hid hb2
  obtain ⟨A1, c1, rfl, -⟩ := hu
  obtain ⟨A2, c2, rfl, -⟩ := hv
  clear hb2
  go_wp2
  go_ret3; rw [HM.out]
  exact ⟨_, _, rfl, HU.out, HV.out, HB.out⟩
set_option maxHeartbeats 1000000 in
theorem c_impl_RefreshBits {va vb : Value} {a b : List Int} {key : Int} {w : World} (ha : Ints w va a) (hb' : Ints w vb b) (hla : a.length ≤ 1000) (hlb : b.length ≤ 1000) :
    Calls Try.prog 47 #[.int .i64 key, va, vb] w (RetI2B w (refBM key a b)) := by
  have HVA := Lib.hid ha
  have HVB := Lib.hid hb'
  have HB0 := Lib.hid (Below.refl w.heap.size w)
  obtain ⟨A, c, rfl, -⟩ := ha
  obtain ⟨A', c', rfl, -⟩ := hb'
  rcases hk : inB key 0 1000000000 with _ | _
  · have HM := Lib.hid (show refBM key a b = none by unfold refBM; rw [hk]; rfl)
    go_enter Try.func47, Try.ntmps47
    go_wp2_with (go_at_call 90; refine (c_impl_isKey).mono ?_; rintro e w' ⟨rfl, rfl⟩)
    go_ret3; rw [HM.out]; exact RetI2B.no (Below.refl _ _)
  rcases h1 : bitsB 64 a with _ | _
  · have HM := Lib.hid (show refBM key a b = none by unfold refBM; rw [h1]; simp)
    go_enter Try.func47, Try.ntmps47
    go_wp2_with (go_at_call 90; refine (c_impl_isKey).mono ?_; rintro e w' ⟨rfl, rfl⟩)
    refine (c_impl_AreBits (HVA.out.below HB0.out) (by omega)).mono ?_
    rintro e w1 ⟨rfl, hb1⟩
    rw [h1]
    have HB1 := Lib.hid (below_step HB0.out hb1)
    clear hb1
    go_wp2
    go_ret3; rw [HM.out]; exact RetI2B.no HB1.out
  rcases h2 : bitsB 64 b with _ | _
  · have HM := Lib.hid (show refBM key a b = none by unfold refBM; rw [h2]; simp)
    go_enter Try.func47, Try.ntmps47
    go_wp2_with (go_at_call 90; refine (c_impl_isKey).mono ?_; rintro e w' ⟨rfl, rfl⟩)
    refine (c_impl_AreBits (HVA.out.below HB0.out) (by omega)).mono ?_
    rintro e w1 ⟨rfl, hb1⟩
    rw [h1]
    have HB1 := Lib.hid (below_step HB0.out hb1)
    clear hb1
    go_wp2_with fail
    refine (c_impl_AreBits (HVB.out.below HB1.out) (by omega)).mono ?_
    rintro e w2 ⟨rfl, hb1⟩
    rw [h2]
    have HB2 := Lib.hid (below_step HB1.out hb1)
    clear hb1
    go_wp2
    go_ret3; rw [HM.out]; exact RetI2B.no HB2.out
  rcases hn : ((a.length : Int) != (b.length : Int)) with _ | _
  rotate_left
  · have HM := Lib.hid (show refBM key a b = none by
      have hab : ¬ (a.length : Int) = (b.length : Int) := by simpa using hn
      unfold refBM; rw [decide_eq_false hab]; simp)
    go_enter Try.func47, Try.ntmps47
    go_wp2_with (go_at_call 90; refine (c_impl_isKey).mono ?_; rintro e w' ⟨rfl, rfl⟩)
    refine (c_impl_AreBits (HVA.out.below HB0.out) (by omega)).mono ?_
    rintro e w1 ⟨rfl, hb1⟩
    rw [h1]
    have HB1 := Lib.hid (below_step HB0.out hb1)
    clear hb1
    go_wp2_with fail
    refine (c_impl_AreBits (HVB.out.below HB1.out) (by omega)).mono ?_
    rintro e w2 ⟨rfl, hb1⟩
    rw [h2]
    have HB2 := Lib.hid (below_step HB1.out hb1)
    clear hb1
    go_wp2
    go_ret3; rw [HM.out]; exact RetI2B.no HB2.out
  have hab : (a.length : Int) = (b.length : Int) := by simpa using hn
  have HM := Lib.hid (show refBM key a b = some (xorsM a (bitN [key, 12] a.length), xorsM b (bitN [key, 12] a.length)) by unfold refBM; rw [hk, h1, h2, decide_eq_true hab]; rfl)
  have HXA := Lib.hid (bitsB_bd h1).2
  have HXB := Lib.hid (bitsB_bd h2).2
  have HAB := Lib.hid (show a.length = b.length by omega)
  have hkb := inB_bd hk
  have ha64 : a.length ≤ 64 := by have := (bitsB_bd h1).1; omega
  have hb64 : b.length ≤ 64 := by have := (bitsB_bd h2).1; omega
  have HKX := Lib.hid (key_bd (c := 12) hkb (by omega))
  clear hab
  go_enter Try.func47, Try.ntmps47
  go_wp2_with (go_at_call 90; refine (c_impl_isKey).mono ?_; rintro e w' ⟨rfl, rfl⟩)
  refine (c_impl_AreBits (HVA.out.below HB0.out) (by omega)).mono ?_
  rintro e w1 ⟨rfl, hb1⟩
  rw [h1]
  have HB1 := Lib.hid (below_step HB0.out hb1)
  clear hb1
  go_wp2_with fail
  refine (c_impl_AreBits (HVB.out.below HB1.out) (by omega)).mono ?_
  rintro e w2 ⟨rfl, hb1⟩
  rw [h2]
  have HB2 := Lib.hid (below_step HB1.out hb1)
  clear hb1
  go_wp2_with fail
  refine (c_impl_bitsFrom (ints_lit _ [key, 12] _ rfl (by simp)) (by simp) HKX.out (by omega)).mono ?_
  rintro e w3 ⟨u, rfl, hu, hb3⟩
  have HU := Lib.hid hu.ints
  obtain ⟨A1, c1, rfl, -⟩ := hu.ints
  have HB3 := Lib.hid (below_step HB2.out (lit_trans hb3))
  clear hu hb3
  go_wp2_with fail
  refine (c_impl_xored (HVA.out.below HB3.out) HU.out (by omega) (by rw [bitN_length]) HXA.out (bitN_i64 _ _)).mono ?_
  rintro e w4 ⟨u2, rfl, hu2, hb4⟩
  have HU2 := Lib.hid hu2.ints
  obtain ⟨A2, c2, rfl, -⟩ := hu2.ints
  have HB4 := Lib.hid (below_step HB3.out hb4)
  replace HU := Lib.hid (HU.out.below hb4)
  clear hu2 hb4
  go_wp2_with fail
  refine (c_impl_xored (HVB.out.below HB4.out) HU.out (by omega) (by rw [bitN_length]; exact HAB.out.symm) HXB.out (bitN_i64 _ _)).mono ?_
  rintro e w5 ⟨u3, rfl, hu3, hb5⟩
  have HU3 := Lib.hid hu3.ints
  obtain ⟨A3, c3, rfl, -⟩ := hu3.ints
  have HB5 := Lib.hid (below_step HB4.out hb5)
  replace HU2 := Lib.hid (HU2.out.below hb5)
  clear hu3 hb5
  go_wp2
  go_ret3; rw [HM.out]
  exact ⟨_, _, rfl, HU2.out, HU3.out, HB5.out⟩
set_option maxHeartbeats 1000000 in
theorem c_spec_RefreshBits {va vb : Value} {a b : List Int} {key : Int} {w : World} (ha : Ints w va a) (hb' : Ints w vb b) (hla : a.length ≤ 1000) (hlb : b.length ≤ 1000) :
    Calls Try.prog 53 #[.int .i64 key, va, vb] w (RetI2B w (refBM key a b)) := by
  have HVA := Lib.hid ha
  have HVB := Lib.hid hb'
  have HB0 := Lib.hid (Below.refl w.heap.size w)
  obtain ⟨A, c, rfl, -⟩ := ha
  obtain ⟨A', c', rfl, -⟩ := hb'
  rcases hk : inB key 0 1000000000 with _ | _
  · have HM := Lib.hid (show refBM key a b = none by unfold refBM; rw [hk]; rfl)
    go_enter Try.func53, Try.ntmps53
    go_wp2_with (go_at_call 93; refine (c_spec_shKey).mono ?_; rintro e w' ⟨rfl, rfl⟩)
    go_ret3; rw [HM.out]; exact RetI2B.no (Below.refl _ _)
  rcases h1 : bitsB 64 a with _ | _
  · have HM := Lib.hid (show refBM key a b = none by unfold refBM; rw [h1]; simp)
    go_enter Try.func53, Try.ntmps53
    go_wp2_with (go_at_call 93; refine (c_spec_shKey).mono ?_; rintro e w' ⟨rfl, rfl⟩)
    refine (c_spec_AreBits (HVA.out.below HB0.out) (by omega)).mono ?_
    rintro e w' ⟨rfl, rfl⟩
    rw [h1]
    have HB1 := HB0
    go_wp2
    go_ret3; rw [HM.out]; exact RetI2B.no HB1.out
  rcases h2 : bitsB 64 b with _ | _
  · have HM := Lib.hid (show refBM key a b = none by unfold refBM; rw [h2]; simp)
    go_enter Try.func53, Try.ntmps53
    go_wp2_with (go_at_call 93; refine (c_spec_shKey).mono ?_; rintro e w' ⟨rfl, rfl⟩)
    refine (c_spec_AreBits (HVA.out.below HB0.out) (by omega)).mono ?_
    rintro e w' ⟨rfl, rfl⟩
    rw [h1]
    have HB1 := HB0
    go_wp2_with fail
    refine (c_spec_AreBits (HVB.out.below HB1.out) (by omega)).mono ?_
    rintro e w' ⟨rfl, rfl⟩
    rw [h2]
    have HB2 := HB1
    go_wp2
    go_ret3; rw [HM.out]; exact RetI2B.no HB2.out
  rcases hn : ((a.length : Int) != (b.length : Int)) with _ | _
  rotate_left
  · have HM := Lib.hid (show refBM key a b = none by
      have hab : ¬ (a.length : Int) = (b.length : Int) := by simpa using hn
      unfold refBM; rw [decide_eq_false hab]; simp)
    go_enter Try.func53, Try.ntmps53
    go_wp2_with (go_at_call 93; refine (c_spec_shKey).mono ?_; rintro e w' ⟨rfl, rfl⟩)
    refine (c_spec_AreBits (HVA.out.below HB0.out) (by omega)).mono ?_
    rintro e w' ⟨rfl, rfl⟩
    rw [h1]
    have HB1 := HB0
    go_wp2_with fail
    refine (c_spec_AreBits (HVB.out.below HB1.out) (by omega)).mono ?_
    rintro e w' ⟨rfl, rfl⟩
    rw [h2]
    have HB2 := HB1
    go_wp2
    go_ret3; rw [HM.out]; exact RetI2B.no HB2.out
  have hab : (a.length : Int) = (b.length : Int) := by simpa using hn
  have HM := Lib.hid (show refBM key a b = some (xorsM a (bitN [key, 12] a.length), xorsM b (bitN [key, 12] a.length)) by unfold refBM; rw [hk, h1, h2, decide_eq_true hab]; rfl)
  have HXA := Lib.hid (bitsB_bd h1).2
  have HXB := Lib.hid (bitsB_bd h2).2
  have HAB := Lib.hid (show a.length = b.length by omega)
  have hkb := inB_bd hk
  have ha64 : a.length ≤ 64 := by have := (bitsB_bd h1).1; omega
  have hb64 : b.length ≤ 64 := by have := (bitsB_bd h2).1; omega
  have HKX := Lib.hid (key_bd (c := 12) hkb (by omega))
  clear hab
  go_enter Try.func53, Try.ntmps53
  go_wp2_with (go_at_call 93; refine (c_spec_shKey).mono ?_; rintro e w' ⟨rfl, rfl⟩)
  refine (c_spec_AreBits (HVA.out.below HB0.out) (by omega)).mono ?_
  rintro e w' ⟨rfl, rfl⟩
  rw [h1]
  have HB1 := HB0
  go_wp2_with fail
  refine (c_spec_AreBits (HVB.out.below HB1.out) (by omega)).mono ?_
  rintro e w' ⟨rfl, rfl⟩
  rw [h2]
  have HB2 := HB1
  go_wp2_with fail
  refine (c_spec_dgBits (ints_lit _ [key, 12] _ rfl (by simp)) (by simp) HKX.out (by omega)).mono ?_
  rintro e w3 ⟨u, rfl, hu, hb3⟩
  have HU := Lib.hid hu.ints
  obtain ⟨A1, c1, rfl, -⟩ := hu.ints
  have HB3 := Lib.hid (below_step HB2.out (lit_trans hb3))
  clear hu hb3
  go_wp2_with fail
  refine (c_spec_btXor (HVA.out.below HB3.out) HU.out (by omega) (by rw [bitN_length]) HXA.out (bitN_i64 _ _)).mono ?_
  rintro e w4 ⟨u2, rfl, hu2, hb4⟩
  have HU2 := Lib.hid hu2.ints
  obtain ⟨A2, c2, rfl, -⟩ := hu2.ints
  have HB4 := Lib.hid (below_step HB3.out hb4)
  replace HU := Lib.hid (HU.out.below hb4)
  clear hu2 hb4
  go_wp2_with fail
  refine (c_spec_btXor (HVB.out.below HB4.out) HU.out (by omega) (by rw [bitN_length]; exact HAB.out.symm) HXB.out (bitN_i64 _ _)).mono ?_
  rintro e w5 ⟨u3, rfl, hu3, hb5⟩
  have HU3 := Lib.hid hu3.ints
  obtain ⟨A3, c3, rfl, -⟩ := hu3.ints
  have HB5 := Lib.hid (below_step HB4.out hb5)
  replace HU2 := Lib.hid (HU2.out.below hb5)
  clear hu3 hb5
  go_wp2
  go_ret3; rw [HM.out]
  exact ⟨_, _, rfl, HU2.out, HU3.out, HB5.out⟩
end Go.Proofs.Ytmccfdaaneemfaa
