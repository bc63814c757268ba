/- Contracts of splitting values into shares and of the sum of products of shares. Conditions: the lists are short. -/
import Derived.Test.YtmccfdaaneemfaaShrA
import Derived.Test.YtmccfdaaneemfaaScal
import Derived.Test.YtmccfdaaneemfaaBtMod
namespace Go.Proofs.Ytmccfdaaneemfaa
open Go.RowKit
set_option linter.unusedVariables false

/-- The random shares of n values. -/
def rndN (p key : Int) (n : Nat) : List Int := (List.range n).map fun (i : Nat) => digM [key, (i : Int), 13, p] % p
theorem rndN_snoc (p key : Int) (n : Nat) : rndN p key (n + 1) = rndN p key n ++ [digM [key, (n : Int), 13, p] % p] := by simp [rndN, List.range_succ]
theorem rndN_length (p key : Int) (n : Nat) : (rndN p key n).length = n := by simp [rndN]
theorem rndN_bd {p : Int} (hp : 0 < p) (key : Int) (n : Nat) : ∀ z ∈ rndN p key n, 0 ≤ z ∧ z < p := by
  intro z hz
  obtain ⟨k, _, rfl⟩ := List.mem_map.1 hz; exact mod_bd _ hp
def subF : Int → Int → Int := fun x y => x - y
def mulF : Int → Int → Int := fun x y => x * y
/-- Shares of values. -/
noncomputable def splitM (p key : Int) (l : List Int) : Option (List Int × List Int) := if shB p l && inB key 0 1000000000 then some (rndN p key l.length, combN (fun x y => x - y) p l (rndN p key l.length)) else none
/-- The call returns two lists and a flag. -/
def RetI2B (w : World) (o : Option (List Int × List Int)) (e : Ending) (w' : World) : Prop := ∃ u v, e = .returned (.tuple #[u, v, .bool o.isSome]) ∧ Ints w' u (o.getD ([], [])).1 ∧ Ints w' v (o.getD ([], [])).2 ∧ Below w.heap.size w w'
theorem ints_none (w : World) : Ints w (.slice none 0 0) [] := (OwnI.nil w 0).ints
theorem RetI2B.no {w w' : World} (h : Below w.heap.size w w') : RetI2B w none (.returned (.tuple #[.slice none 0 0, .slice none 0 0, .bool false])) w' := ⟨_, _, rfl, ints_none _, ints_none _, h⟩
theorem shB_of {p : Int} {l : List Int} (h : shB p l = true) : fldB p = true ∧ (∀ x ∈ l, 0 ≤ x ∧ x < p) ∧ l.length ≤ 40 := by
  simp only [shB, Bool.and_eq_true, decide_eq_true_eq] at h
  have := fpInB_of h.1
  exact ⟨this.1, this.2, by omega⟩
theorem shB_mk {p : Int} {l : List Int} (hf : fldB p = true) (h : ∀ x ∈ l, 0 ≤ x ∧ x < p) (hl : l.length ≤ 40) : shB p l = true := by
  unfold shB fpInB allB
  rw [hf, decide_eq_true (by omega : (l.length : Int) ≤ 40)]
  have : l.all (fun x => inB x 0 (p - 1)) = true := List.all_eq_true.2 fun x hx => inB_mk (h x hx).1 (by have := (h x hx).2; omega)
  simp [this]
theorem combN_length (f : Int → Int → Int) (p : Int) (a b : List Int) (h : a.length = b.length) : (combN f p a b).length = a.length := by unfold combN; rw [List.length_zipWith, h, Nat.min_self]
theorem combN_bd {p : Int} (hp : 0 < p) (f : Int → Int → Int) (a b : List Int) : ∀ z ∈ combN f p a b, 0 ≤ z ∧ z < p := by
  intro z hz
  unfold combN at hz
  obtain ⟨i, hi, rfl⟩ := List.getElem_of_mem hz
  rw [List.getElem_zipWith]
  exact mod_bd _ hp
set_option maxRecDepth 100000 in
set_option maxHeartbeats 2000000 in
theorem c_impl_SplitSum {v : Value} {l : List Int} {p key : Int} {w : World} (h : Ints w v l) (hl : l.length ≤ 1000) :
    Calls Try.prog 41 #[.int .i64 p, .int .i64 key, v] w (RetI2B w (splitM p key l)) := by
  have H := Lib.hid h
  obtain ⟨A, c, rfl, -⟩ := h
  rcases hs : shB p l with _ | _
  · have HM := Lib.hid (show splitM p key l = none by unfold splitM; rw [hs]; rfl)
    go_enter Try.func41, Try.ntmps41
    go_wp2_with fail
    refine (c_impl_areShares H.out (by omega)).mono ?_
    rintro e w1 ⟨rfl, hb1⟩
    rw [hs]
    have HB1 := Lib.hid hb1
    clear hb1
    go_wp2
    go_ret3; rw [HM.out]; exact RetI2B.no HB1.out
  rcases hk : inB key 0 1000000000 with _ | _
  · have HM := Lib.hid (show splitM p key l = none by unfold splitM; rw [hs, hk]; rfl)
    go_enter Try.func41, Try.ntmps41
    go_wp2_with fail
    refine (c_impl_areShares H.out (by omega)).mono ?_
    rintro e w1 ⟨rfl, hb1⟩
    rw [hs]
    have HB1 := Lib.hid hb1
    clear hb1
    go_wp2_with (go_at_call 90; refine (c_impl_isKey).mono ?_; rintro e w' ⟨rfl, rfl⟩)
    go_ret3; rw [HM.out]; exact RetI2B.no HB1.out
  have HM := Lib.hid (show splitM p key l = some (rndN p key l.length, combN (fun x y => x - y) p l (rndN p key l.length)) by unfold splitM; rw [hs, hk]; rfl)
  have hv := shB_of hs
  have HV := Lib.hid hv.2.1
  have hll := hv.2.2
  have HF := Lib.hid hv.1
  have hpb := fldB_bd hv.1
  have hkb := inB_bd hk
  clear hv
  go_enter Try.func41, Try.ntmps41
  go_wp2_with fail
  refine (c_impl_areShares H.out (by omega)).mono ?_
  rintro e w1 ⟨rfl, hb1⟩
  rw [hs]
  have HB1 := Lib.hid hb1
  have hz1 := hb1.size
  clear hb1
  go_wp2_with (go_at_call 90; refine (c_impl_isKey).mono ?_; rintro e w' ⟨rfl, rfl⟩)
  go_loopw [9, 25] (fun u i wr => ∃ k : Nat, k ≤ l.length ∧ i = .int .i64 k ∧ Hid (OwnI wr w.heap.size u (rndN p key k)) ∧ Hid (Below w.heap.size w wr)) (fun _ i _ => l.length - (intOf i).toNat)
  case atStart => exact ⟨0, Nat.zero_le _, rfl, Lib.hid (OwnI.empty hz1), Lib.hid (HB1.out.alloc hz1 _)⟩
  case round =>
    obtain ⟨k, hkl, rfl, HO, HB⟩ := hrel
    obtain ⟨wa, rfl⟩ : ∃ W, W = wr := ⟨wr, rfl⟩
    by_cases hlt : k < l.length
    · have HSN := Lib.hid (rndN_snoc p key k)
      have hsl : (rndN p key k).length ≤ 40 := by rw [rndN_length]; omega
      have HX := Lib.hid (show ∀ x ∈ [key, (k : Int), 13], -1000000000000 ≤ x ∧ x ≤ 1000000000000 by intro x hx; simp at hx; omega)
      have HD := Lib.hid (show digM ([key, (k : Int), 13] ++ [p]) = digM [key, (k : Int), 13, p] from rfl)
      generalize rndN p key k = Sk at *
      go_wp2_with fail
      refine (c_impl_numberFrom (n := p) (ints_lit wa [key, (k : Int), 13] _ rfl (by simp)) (by simp) HX.out (by omega)).mono ?_
      rintro e w2 ⟨rfl, hb2⟩
      rw [HD.out]
      have HB2 := Lib.hid (below_step HB.out (lit_trans hb2))
      have HO2 := Lib.hid (HO.out.below (lit_trans hb2))
      have hz2 := HB2.out.size
      clear hb2
      generalize digM [key, (k : Int), 13, p] % p = D at *
      go_wp2_with (at_builtin; refine wp_app1 (B := w.heap.size) rfl rfl Try.underlying32 info_int rfl HO2.out rfl rfl rfl (by unfold maxLen; omega) (by omega) hz2 ?_; intro v' w9 ho hg hfr)
      have HB9 := Lib.hid (below_app HB2.out HO2.out hg (Nat.le_refl _))
      go_roundw
      case rel => exact ⟨k + 1, by omega, by go_num, by rw [HSN.out]; exact Lib.hid (OwnI.snoc ho), HB9⟩
      case measure => simp [intOf]; omega
    · obtain rfl : k = l.length := by omega
      have HRL := Lib.hid (rndN_length p key l.length)
      have HRB := Lib.hid (rndN_bd (p := p) (by omega) key l.length)
      obtain ⟨A9, c9, rfl, -⟩ := HO.out.ints
      have HCM := Lib.hid (show combM (fun x y => x - y) p l (rndN p key l.length) = some (combN (fun x y => x - y) p l (rndN p key l.length)) by
        unfold combM; rw [hs, shB_mk HF.out HRB.out (by rw [HRL.out]; exact hll), HRL.out]; simp)
      have hrl : (rndN p key l.length).length ≤ 40 := by rw [HRL.out]; exact hll
      generalize rndN p key l.length = Rn at *
      go_wp2_with fail
      refine (c_combined_SplitSum (H.out.below HB.out) HO.out.ints (by omega) (by omega)).mono ?_
      rintro e w2 ⟨u2, rfl, hu2, hb2⟩
      rw [HCM.out] at hu2 ⊢
      have HU := Lib.hid (show OwnI w2 wa.heap.size u2 (combN (fun x y => x - y) p l Rn) from hu2)
      obtain ⟨A3, c3, rfl, -⟩ := HU.out.ints
      have HB2 := Lib.hid (below_step HB.out hb2)
      have HO2 := Lib.hid (HO.out.below hb2)
      clear hu2 hb2
      go_wp2
      go_ret3; rw [HM.out]
      exact ⟨_, _, rfl, HO2.out.ints, HU.out.ints, HB2.out⟩
end Go.Proofs.Ytmccfdaaneemfaa
