/- Contracts of bits: drawn from a digest, split, refreshed, joined. Conditions: the lists are short. -/
import Derived.Test.YtmccfdaaneemfaaRef
import Derived.Test.YtmccfdaaneemfaaXor
import Derived.Test.YtmccfdaaneemfaaScal
namespace Go.Proofs.Ytmccfdaaneemfaa
open Go.RowKit
set_option linter.unusedVariables false

theorem enters_isBit : Enters 80 := by intro args w; simp [callFunc, Try.func80]; kernel_rfl
def bitsB (most : Int) (l : List Int) : Bool := decide ((l.length : Int) ≤ most) && allB l 0 1
theorem c_impl_AreBits {v : Value} {l : List Int} {w : World} (h : Ints w v l) (hl : l.length ≤ 1048576) : Calls Try.prog 97 #[v] w fun e w' => e = .returned (.bool (bitsB 64 l)) ∧ Below w.heap.size w w' := by
  have H := Lib.hid h
  obtain ⟨A, c, rfl, -⟩ := h
  by_cases h2 : (l.length : Int) ≤ 64
  · have HM := Lib.hid (show bitsB 64 l = l.all (fun x => inB x 0 1) by simp only [bitsB, h2, decide_true, Bool.true_and]; rfl)
    go_enter Try.func97, Try.ntmps97
    go_wp2_with fail
    refine (c_impl_areAll (K := 80) (caps := []) (p := fun x => inB x 0 1) enters_isBit H.out (by omega) (PredB.same fun W x => c_impl_isBit)).mono ?_
    rintro e w1 ⟨rfl, hb1⟩
    go_wp2
    go_ret; exact ⟨by rw [HM.out]; rfl, hb1⟩
  · have HM := Lib.hid (show bitsB 64 l = false by simp only [bitsB, h2, decide_false, Bool.false_and])
    go_enter Try.func97, Try.ntmps97
    go_wp2
    go_ret; exact ⟨by rw [HM.out]; rfl, Below.refl _ _⟩
theorem c_spec_btGood {v : Value} {l : List Int} {w : World} {m : Int} (h : Ints w v l) (hl : l.length ≤ 1048576) : Calls Try.prog 135 #[v, .int .i64 m] w fun e w' => e = .returned (.bool (bitsB m l)) ∧ w = w' := by
  have H := Lib.hid h
  obtain ⟨A, c, rfl, -⟩ := h
  by_cases h2 : (l.length : Int) ≤ m
  · have HM := Lib.hid (show bitsB m l = allB l 0 1 by simp only [bitsB, h2, decide_true, Bool.true_and])
    go_enter Try.func135, Try.ntmps135
    go_wp2_with (go_at_call 123; refine (c_spec_l1All H.out (by omega)).mono ?_; rintro e w' ⟨rfl, rfl⟩)
    go_ret; exact ⟨by rw [HM.out]; rfl, rfl⟩
  · have HM := Lib.hid (show bitsB m l = false by simp only [bitsB, h2, decide_false, Bool.false_and])
    go_enter Try.func135, Try.ntmps135
    go_wp2
    go_ret; exact ⟨by rw [HM.out]; rfl, rfl⟩
theorem c_spec_AreBits {v : Value} {l : List Int} {w : World} (h : Ints w v l) (hl : l.length ≤ 1048576) : Calls Try.prog 100 #[v] w fun e w' => e = .returned (.bool (bitsB 64 l)) ∧ w = w' := by
  have H := Lib.hid h
  obtain ⟨A, c, rfl, -⟩ := h
  go_enter Try.func100, Try.ntmps100
  go_wp2_with (go_at_call 135; refine (c_spec_btGood H.out hl).mono ?_; rintro e w' ⟨rfl, rfl⟩)
  go_ret; exact ⟨rfl, rfl⟩
/-- So many bits, drawn from a list. -/
def bitN (l : List Int) (n : Nat) : List Int := (List.range n).map fun (i : Nat) => digM (l ++ [(i : Int), 2]) / 8 % 2
theorem bitN_snoc (l : List Int) (n : Nat) : bitN l (n + 1) = bitN l n ++ [digM (l ++ [(n : Int), 2]) / 8 % 2] := by simp [bitN, List.range_succ]
theorem bitN_length (l : List Int) (n : Nat) : (bitN l n).length = n := by simp [bitN]
theorem bitN_bd (l : List Int) (n : Nat) : ∀ x ∈ bitN l n, 0 ≤ x ∧ x ≤ 1 := by
  intro z hz
  obtain ⟨k, _, rfl⟩ := List.mem_map.1 hz; omega
theorem bd2_snoc {l : List Int} {n : Int} (h : ∀ x ∈ l, -1000000000000 ≤ x ∧ x ≤ 1000000000000) (hn : 0 ≤ n ∧ n ≤ 1000) : ∀ x ∈ l ++ [n, 2], -1000000000000 ≤ x ∧ x ≤ 1000000000000 := by
  intro x hx
  simp only [List.mem_append, List.mem_cons, List.not_mem_nil, or_false] at hx
  rcases hx with h1 | h1 | h1
  · exact h x h1
  · omega
  · omega
set_option maxHeartbeats 1000000 in
theorem c_impl_bitsFrom {v : Value} {l : List Int} {n : Nat} {w : World} (h : Ints w v l) (hl : l.length ≤ 900) (hx : ∀ x ∈ l, -1000000000000 ≤ x ∧ x ≤ 1000000000000) (hn : n ≤ 1000) :
    Calls Try.prog 98 #[v, .int .i64 (n : Int)] w (RetI w (bitN l n)) := by
  have H := Lib.hid h
  have HX := Lib.hid hx
  obtain ⟨A, c, rfl, -⟩ := h
  clear hx
  go_enter Try.func98, Try.ntmps98
  go_wp2
  go_loopw [5, 9] (fun u i wr => ∃ k : Nat, k ≤ n ∧ i = .int .i64 k ∧ Hid (OwnI wr w.heap.size u (bitN l k)) ∧ Hid (Below w.heap.size w wr)) (fun _ i _ => n - (intOf i).toNat)
  case atStart => exact ⟨0, Nat.zero_le _, rfl, Lib.hid (OwnI.empty (Nat.le_refl _)), Lib.hid ((Below.refl _ _).alloc (Nat.le_refl _) _)⟩
  case round =>
    obtain ⟨k, hkl, rfl, HO, HB⟩ := hrel
    obtain ⟨wa, rfl⟩ : ∃ W, W = wr := ⟨wr, rfl⟩
    by_cases hlt : k < n
    · have HSN := Lib.hid (bitN_snoc l k)
      have hsl : (bitN l k).length ≤ 1000 := by rw [bitN_length]; omega
      have HX2 := Lib.hid (bd2_snoc (n := (k : Int)) HX.out (by omega))
      have hd := digM_bd (l ++ [(k : Int), 2])
      generalize bitN l k = Sk at *
      go_wp2_with fail
      refine (c_impl_with2 ((H.out.below HB.out).alloc _) (ints_lit wa [(k : Int), 2] _ rfl (by simp)) (by omega) (by simp)).mono ?_
      rintro e w1 ⟨u, rfl, hu, hb1⟩
      have HB1 := Lib.hid (below_step HB.out (lit_trans hb1))
      have HO1 := Lib.hid (HO.out.below (lit_trans hb1))
      have HU := Lib.hid hu.ints
      clear hu hb1
      go_wp2_with fail
      refine (c_impl_digest HU.out (by simp; omega) HX2.out).mono ?_
      rintro e w2 ⟨rfl, hb2⟩
      have HB2 := Lib.hid (below_step HB1.out hb2)
      have HO2 := Lib.hid (HO1.out.below hb2)
      have hz2 := HB2.out.size
      clear hb2
      generalize digM (l ++ [(k : Int), 2]) = D at *
      have HDV := Lib.hid (show (D.tdiv 8).tmod 2 = D / 8 % 2 by rw [Int.tdiv_eq_ediv_of_nonneg hd.1, Int.tmod_eq_emod_of_nonneg (by omega)])
      go_wp2_with (at_builtin; refine wp_app1 (B := w.heap.size) rfl rfl Try.underlying32 info_int rfl HO2.out rfl rfl rfl (by unfold maxLen; omega) (by omega) hz2 ?_; intro v' w9 ho hg hfr)
      have HB9 := Lib.hid (below_app HB2.out HO2.out hg (Nat.le_refl _))
      go_roundw
      case rel => exact ⟨k + 1, by omega, by go_num, by rw [HSN.out]; first | exact Lib.hid (OwnI.snoc ho) | (have := OwnI.snoc ho; rw [HDV.out] at this; exact Lib.hid this), HB9⟩
      case measure => simp [intOf]; omega
    · obtain rfl : k = n := by omega
      go_wp2
      go_ret
      exact RetI.mk HO.out HB.out
set_option maxHeartbeats 1000000 in
theorem c_spec_dgBits {v : Value} {l : List Int} {n : Nat} {w : World} (h : Ints w v l) (hl : l.length ≤ 900) (hx : ∀ x ∈ l, -1000000000000 ≤ x ∧ x ≤ 1000000000000) (hn : n ≤ 1000) :
    Calls Try.prog 107 #[v, .int .i64 (n : Int)] w (RetI w (bitN l n)) := by
  have H := Lib.hid h
  have HX := Lib.hid hx
  obtain ⟨A, c, rfl, -⟩ := h
  clear hx
  go_enter Try.func107, Try.ntmps107
  go_wp2
  go_loopw [5, 6] (fun u i wr => ∃ k : Nat, k ≤ n ∧ i = .int .i64 k ∧ Hid (OwnI wr w.heap.size u (bitN l k)) ∧ Hid (Below w.heap.size w wr)) (fun _ i _ => n - (intOf i).toNat)
  case atStart => exact ⟨0, Nat.zero_le _, rfl, Lib.hid (OwnI.nil _ _), Lib.hid (Below.refl _ _)⟩
  case round =>
    obtain ⟨k, hkl, rfl, HO, HB⟩ := hrel
    obtain ⟨wa, rfl⟩ : ∃ W, W = wr := ⟨wr, rfl⟩
    by_cases hlt : k < n
    · have HSN := Lib.hid (bitN_snoc l k)
      have hsl : (bitN l k).length ≤ 1000 := by rw [bitN_length]; omega
      have HX2 := Lib.hid (bd2_snoc (n := (k : Int)) HX.out (by omega))
      have hd := digM_bd (l ++ [(k : Int), 2])
      generalize bitN l k = Sk at *
      go_wp2_with fail
      refine (c_spec_l1Own (H.out.below HB.out) (by omega)).mono ?_
      rintro e w1 ⟨u, rfl, hu, hb1⟩
      have HB1 := Lib.hid (below_step HB.out hb1)
      have HO1 := Lib.hid (HO.out.below hb1)
      have HU := Lib.hid hu
      have hz1 := hb1.size
      have HBB := Lib.hid hb1
      clear hu hb1
      go_wp2_with (at_builtin; refine wp_appAll (B := wa.heap.size) rfl rfl Try.underlying32 info_int rfl (World.ownsRow.alloc HU.out _) (Rd.lit w1 _ _) rfl rfl rfl (ints_one [(k : Int), 2]) (by unfold maxLen; simp; omega) (by simp; omega) (by simp; omega) ?_; intro v' w2 ho hg hfr)
      have HU2 := Lib.hid (show OwnI w2 wa.heap.size v' (l ++ [(k : Int), 2]) from OwnI.app (m := [(k : Int), 2]) ho)
      have HBC := Lib.hid (show Below wa.heap.size wa w2 from below_app (HBB.out.alloc hz1 _) (World.ownsRow.alloc HU.out _) hg (Nat.le_refl _))
      have HB2 := Lib.hid (below_step HB.out HBC.out)
      have HO2 := Lib.hid (HO.out.below HBC.out)
      clear ho hg hfr
      refine (c_spec_dgMix HU2.out.ints (by simp; omega) HX2.out).mono ?_
      rintro e w3 ⟨rfl, hb3⟩
      have HB3 := Lib.hid (below_step HB2.out hb3)
      have HO3 := Lib.hid (HO2.out.below hb3)
      have hz3 := HB3.out.size
      clear hb3
      generalize digM (l ++ [(k : Int), 2]) = D at *
      have HDV := Lib.hid (show (D.tdiv 8).tmod 2 = D / 8 % 2 by rw [Int.tdiv_eq_ediv_of_nonneg hd.1, Int.tmod_eq_emod_of_nonneg (by omega)])
      go_wp2_with (at_builtin; refine wp_app1 (B := w.heap.size) rfl rfl Try.underlying32 info_int rfl HO3.out rfl rfl rfl (by unfold maxLen; omega) (by omega) hz3 ?_; intro v' w9 ho hg hfr)
      have HB9 := Lib.hid (below_app HB3.out HO3.out hg (Nat.le_refl _))
      go_roundw
      case rel => exact ⟨k + 1, by omega, by go_num, by rw [HSN.out]; first | exact Lib.hid (OwnI.snoc ho) | (have := OwnI.snoc ho; rw [HDV.out] at this; exact Lib.hid this), HB9⟩
      case measure => simp [intOf]; omega
    · obtain rfl : k = n := by omega
      go_wp2
      go_ret
      exact RetI.mk HO.out HB.out
end Go.Proofs.Ytmccfdaaneemfaa
