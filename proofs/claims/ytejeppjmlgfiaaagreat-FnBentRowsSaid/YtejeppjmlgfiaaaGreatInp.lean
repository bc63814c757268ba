/- Contracts of inputs and their labels: joins, picks, bits. Conditions: the lists are short. -/
import Derived.Test.YtejeppjmlgfiaaaGreatCirE
import Derived.Test.YtejeppjmlgfiaaaGreatCirF
import Derived.Test.YtejeppjmlgfiaaaGreatCol
import Derived.Test.YtejeppjmlgfiaaaGreatColF
import Derived.Test.YtejeppjmlgfiaaaGreatLabF
import Derived.Test.YtejeppjmlgfiaaaGreatDig3
import Derived.Test.YtejeppjmlgfiaaaGreatCirG
import Derived.Test.YtejeppjmlgfiaaaGreatGbK
namespace Go.Proofs.YtejeppjmlgfiaaaGreat
open Go.RowKit
set_option linter.unusedVariables false

/-! ### a list behind a list -/
theorem c_impl_with {va vb : Value} {a b : List Int} {w : World} (ha : Ints w va a) (hb : Ints w vb b) (hla : a.length ≤ 1048576) (hlb : b.length ≤ 1048576) : Calls Tryz.prog 82 #[va, vb] w (RetI w (a ++ b)) := by
  have HA := Lib.hid ha
  have HB := Lib.hid hb
  obtain ⟨A, c, rfl, -⟩ := ha
  obtain ⟨A', c', rfl, -⟩ := hb
  go_enter Tryz.func82, Tryz.ntmps82
  go_wp2_with fail
  refine (c_slices_Clone HA.out (by omega)).mono ?_
  rintro e w1 ⟨u, rfl, hu, hb1⟩
  obtain ⟨A2, c2, e2, _, _, hrd⟩ := HB.out.below hb1
  injection e2 with e3 e4 e5
  subst e3 e5
  go_wp2_with (at_builtin; refine wp_appAll (B := w.heap.size) rfl rfl Tryz.underlying24 info_int rfl hu hrd (List.length_map _) rfl rfl (ints_one b) (by unfold maxLen; omega) (by omega) hb1.size ?_; intro v' w' ho hg hb)
  go_ret
  refine RetI.mk (by simpa [OwnI] using ho) (hb1.grown hg hb1.size (fun g hg' => own_ge hu g hg'))
theorem c_spec_ciJoin {va vb : Value} {a b : List Int} {w : World} (ha : Ints w va a) (hb : Ints w vb b) (hla : a.length ≤ 1048576) (hlb : b.length ≤ 1048576) : Calls Tryz.prog 66 #[va, vb] w (RetI w (a ++ b)) := by
  have HA := Lib.hid ha
  have HB := Lib.hid hb
  obtain ⟨A, c, rfl, -⟩ := ha
  obtain ⟨A', c', rfl, -⟩ := hb
  go_enter Tryz.func66, Tryz.ntmps66
  go_wp2_with fail
  refine (c_spec_l1Own HA.out (by omega)).mono ?_
  rintro e w1 ⟨u, rfl, hu, hb1⟩
  obtain ⟨A2, c2, e2, _, _, hrd⟩ := HB.out.below hb1
  injection e2 with e3 e4 e5
  subst e3 e5
  go_wp2_with (at_builtin; refine wp_appAll (B := w.heap.size) rfl rfl Tryz.underlying24 info_int rfl hu hrd (List.length_map _) rfl rfl (ints_one b) (by unfold maxLen; omega) (by omega) hb1.size ?_; intro v' w' ho hg hb)
  go_ret
  refine RetI.mk (by simpa [OwnI] using ho) (hb1.grown hg hb1.size (fun g hg' => own_ge hu g hg'))

/-! ### elements at places -/
def pickM (l places : List Int) : List Int := places.map fun k => l.getD k.toNat 0
theorem pickM_length (l p : List Int) : (pickM l p).length = p.length := by simp [pickM]
theorem pickM_snoc (l p : List Int) (x : Int) : pickM l (p ++ [x]) = pickM l p ++ [l.getD x.toNat 0] := by simp [pickM]
theorem pick_at {l : List Int} {k : Int} (h : 0 ≤ k) (h2 : k < (l.length : Int)) : ∃ (j : Nat) (x : Int), k = (j : Int) ∧ j < l.length ∧ l[j]? = some x ∧ l.getD k.toNat 0 = x := by
  obtain ⟨j, rfl⟩ := Int.eq_ofNat_of_zero_le h
  have hj : j < l.length := by omega
  refine ⟨j, l[j], rfl, hj, List.getElem?_eq_getElem hj, ?_⟩
  show l.getD (Int.toNat (j : Int)) 0 = _
  rw [Int.toNat_natCast]
  simp [List.getD, List.getElem?_eq_getElem hj]
set_option maxHeartbeats 400000 in
theorem c_impl_at {vl vp : Value} {l p : List Int} {w : World} (h : Ints w vl l) (hp : Ints w vp p) (hl : l.length ≤ 2097152) (hlp : p.length ≤ 2097152) (hb : ∀ k ∈ p, 0 ≤ k ∧ k < (l.length : Int)) :
    Calls Tryz.prog 78 #[vl, vp] w (RetI w (pickM l p)) := by
  obtain ⟨A, c, rfl, hlc, hcm, hrd⟩ := h
  obtain ⟨A', c', rfl, hlc', hcm', hrd'⟩ := hp
  go_enter Tryz.func78, Tryz.ntmps78
  go_wp2
  go_loopw [5, 11] (fun u i wr => ∃ k : Nat, k ≤ p.length ∧ i = .int .i64 k ∧ OwnI wr w.heap.size u (pickM l (p.take k)) ∧ Below w.heap.size w wr) (fun _ i _ => p.length - (intOf i).toNat)
  case atStart => exact ⟨0, Nat.zero_le _, rfl, OwnI.empty (Nat.le_refl _), (Below.refl _ _).alloc (Nat.le_refl _) _⟩
  case round =>
    obtain ⟨k, hk, rfl, hown, hbw⟩ := hrel
    by_cases hlt : k < p.length
    · obtain ⟨b, o, x, rfl, hbl, hxk, hcell⟩ := (hrd'.below hbw).int_at hlt
      have hxb := hb x (List.mem_of_getElem? hxk)
      obtain ⟨j, y, rfl, hj, hy, hyd⟩ := pick_at hxb.1 hxb.2
      obtain ⟨b2, o2, y2, rfl, hbl2, hy2, hcell2⟩ := (hrd.below hbw).int_at hj
      obtain rfl : y = y2 := by rw [hy] at hy2; exact Option.some.inj hy2
      have HT := Lib.hid (take_snoc hxk)
      have HD := Lib.hid hyd
      have hlen : (pickM l (p.take k)).length ≤ p.length := by rw [pickM_length]; simp; omega
      have hsz := hbw.size
      clear hxk hb hy hy2 hyd
      go_wp2_with (at_builtin; refine wp_app1 (B := w.heap.size) rfl rfl Tryz.underlying24 info_int rfl hown rfl rfl rfl (by unfold maxLen; omega) (by omega) hsz ?_; intro v' w1 ho hg hfr)
      have HB := Lib.hid (below_app hbw hown hg (Nat.le_refl _))
      go_roundw
      case rel => exact ⟨k + 1, by omega, by go_num, by rw [HT.out, pickM_snoc, HD.out]; exact OwnI.snoc ho, HB.out⟩
      case measure => simp [intOf]; omega
    · have HE := Lib.hid (show p.take k = p from List.take_of_length_le (by omega))
      go_wp2
      go_ret
      exact RetI.mk (by rw [HE.out] at hown; exact hown) hbw
set_option maxHeartbeats 400000 in
theorem c_spec_ciPick {vl vp : Value} {l p : List Int} {w : World} (h : Ints w vl l) (hp : Ints w vp p) (hl : l.length ≤ 2097152) (hlp : p.length ≤ 2097152) (hb : ∀ k ∈ p, 0 ≤ k ∧ k < (l.length : Int)) :
    Calls Tryz.prog 94 #[vl, vp] w (RetI w (pickM l p)) := by
  obtain ⟨A, c, rfl, hlc, hcm, hrd⟩ := h
  obtain ⟨A', c', rfl, hlc', hcm', hrd'⟩ := hp
  go_enter Tryz.func94, Tryz.ntmps94
  go_wp2
  go_loopw [5, 10] (fun u i wr => ∃ k : Nat, k ≤ p.length ∧ i = .int .i64 k ∧ OwnI wr w.heap.size u (pickM l (p.take k)) ∧ Below w.heap.size w wr) (fun _ i _ => p.length - (intOf i).toNat)
  case atStart => exact ⟨0, Nat.zero_le _, rfl, OwnI.nil _ _, Below.refl _ _⟩
  case round =>
    obtain ⟨k, hk, rfl, hown, hbw⟩ := hrel
    by_cases hlt : k < p.length
    · obtain ⟨b, o, x, rfl, hbl, hxk, hcell⟩ := (hrd'.below hbw).int_at hlt
      have hxb := hb x (List.mem_of_getElem? hxk)
      obtain ⟨j, y, rfl, hj, hy, hyd⟩ := pick_at hxb.1 hxb.2
      obtain ⟨b2, o2, y2, rfl, hbl2, hy2, hcell2⟩ := (hrd.below hbw).int_at hj
      obtain rfl : y = y2 := by rw [hy] at hy2; exact Option.some.inj hy2
      have HT := Lib.hid (take_snoc hxk)
      have HD := Lib.hid hyd
      have hlen : (pickM l (p.take k)).length ≤ p.length := by rw [pickM_length]; simp; omega
      have hsz := hbw.size
      clear hxk hb hy hy2 hyd
      go_wp2_with (at_builtin; refine wp_app1 (B := w.heap.size) rfl rfl Tryz.underlying24 info_int rfl hown rfl rfl rfl (by unfold maxLen; omega) (by omega) hsz ?_; intro v' w1 ho hg hfr)
      have HB := Lib.hid (below_app hbw hown hg (Nat.le_refl _))
      go_roundw
      case rel => exact ⟨k + 1, by omega, by go_num, by rw [HT.out, pickM_snoc, HD.out]; exact OwnI.snoc ho, HB.out⟩
      case measure => simp [intOf]; omega
    · have HE := Lib.hid (show p.take k = p from List.take_of_length_le (by omega))
      go_wp2
      go_ret
      exact RetI.mk (by rw [HE.out] at hown; exact hown) hbw

/-! ### bits and inputs -/
def bitsB (most : Int) (l : List Int) : Bool := decide ((l.length : Int) ≤ most) && allB l 0 1
theorem c_impl_AreBits {v : Value} {l : List Int} {w : World} (h : Ints w v l) (hl : l.length ≤ 1048576) : Calls Tryz.prog 125 #[v] w fun e w' => e = .returned (.bool (bitsB 64 l)) ∧ Below w.heap.size w w' := by
  have H := Lib.hid h
  obtain ⟨A, c, rfl, -⟩ := h
  by_cases h2 : (l.length : Int) ≤ 64
  · have HM := Lib.hid (show bitsB 64 l = l.all (fun x => inB x 0 1) by simp only [bitsB, h2, decide_true, Bool.true_and]; rfl)
    go_enter Tryz.func125, Tryz.ntmps125
    go_wp2_with fail
    refine (c_impl_areAll (K := 141) (caps := []) (p := fun x => inB x 0 1) enters_isBit H.out (by omega) (PredB.same fun W x => c_impl_isBit)).mono ?_
    rintro e w1 ⟨rfl, hb1⟩
    go_wp2
    go_ret; exact ⟨by rw [HM.out]; rfl, hb1⟩
  · have HM := Lib.hid (show bitsB 64 l = false by simp only [bitsB, h2, decide_false, Bool.false_and])
    go_enter Tryz.func125, Tryz.ntmps125
    go_wp2
    go_ret; exact ⟨by rw [HM.out]; rfl, Below.refl _ _⟩
theorem c_spec_btGood {v : Value} {l : List Int} {w : World} {m : Int} (h : Ints w v l) (hl : l.length ≤ 1048576) : Calls Tryz.prog 128 #[v, .int .i64 m] w fun e w' => e = .returned (.bool (bitsB m l)) ∧ w = w' := by
  have H := Lib.hid h
  obtain ⟨A, c, rfl, -⟩ := h
  by_cases h2 : (l.length : Int) ≤ m
  · have HM := Lib.hid (show bitsB m l = allB l 0 1 by simp only [bitsB, h2, decide_true, Bool.true_and])
    go_enter Tryz.func128, Tryz.ntmps128
    go_wp2_with (go_at_call 104; refine (c_spec_l1All H.out (by omega)).mono ?_; rintro e w' ⟨rfl, rfl⟩)
    go_ret; exact ⟨by rw [HM.out]; rfl, rfl⟩
  · have HM := Lib.hid (show bitsB m l = false by simp only [bitsB, h2, decide_false, Bool.false_and])
    go_enter Tryz.func128, Tryz.ntmps128
    go_wp2
    go_ret; exact ⟨by rw [HM.out]; rfl, rfl⟩
theorem c_spec_btGoodB {v : Value} {l : List Int} {w : World} {m : Int} (h : Ints w v l) (hl : l.length ≤ 1048576) : Calls Tryz.prog 128 #[v, .int .i64 m] w fun e w' => e = .returned (.bool (bitsB m l)) ∧ Below w.heap.size w w' :=
  (c_spec_btGood h hl).mono fun e w' ⟨he, hw⟩ => ⟨he, hw ▸ Below.refl _ _⟩
def askedB (c : Cir) (a b : List Int) : Bool := cirB c && allB a 0 1 && allB b 0 1 && decide ((a.length : Int) = c.i0) && decide ((b.length : Int) = c.i1)
theorem askedB_of {c : Cir} {a b : List Int} (h : askedB c a b = true) : cirB c = true ∧ allB a 0 1 = true ∧ allB b 0 1 = true ∧ (a.length : Int) = c.i0 ∧ (b.length : Int) = c.i1 := by
  simp only [askedB, Bool.and_eq_true, decide_eq_true_eq] at h; exact ⟨h.1.1.1.1, h.1.1.1.2, h.1.1.2, h.1.2, h.2⟩
theorem bitsB_of {m : Int} {l : List Int} (h : bitsB m l = true) : (l.length : Int) ≤ m ∧ allB l 0 1 = true := by simp only [bitsB, Bool.and_eq_true, decide_eq_true_eq] at h; exact h
theorem asked_no {c : Cir} {a b : List Int} {m : Int} (hc : cirB c = true) (hm : 20 ≤ m) (h : bitsB m a = false ∨ bitsB m b = false) : askedB c a b = false := by
  have hbd := cirB_bd hc
  rcases hh : askedB c a b with _ | _
  · rfl
  · obtain ⟨_, h1, h2, h3, h4⟩ := askedB_of hh
    rcases h with h | h
    · have : bitsB m a = true := by simp only [bitsB, h1, Bool.and_true, decide_eq_true_eq]; omega
      rw [this] at h; cases h
    · have : bitsB m b = true := by simp only [bitsB, h2, Bool.and_true, decide_eq_true_eq]; omega
      rw [this] at h; cases h
set_option maxRecDepth 100000 in
set_option maxHeartbeats 800000 in
theorem c_impl_areInputs {c : Cir} {gv ov va vb : Value} {a b : List Int} {w : World} (h : CirIn w gv ov c) (ha : Ints w va a) (hb : Ints w vb b) (hla : a.length ≤ 1048576) (hlb : b.length ≤ 1048576) :
    Calls Tryz.prog 56 #[cirV c gv ov, va, vb] w fun e w' => e = .returned (.bool (askedB c a b)) ∧ Below w.heap.size w w' := by
  have H := Lib.hid h
  have HA := Lib.hid ha
  have HV := Lib.hid hb
  obtain ⟨hg, ho⟩ := h
  obtain ⟨A, cg, rfl, -⟩ := hg
  obtain ⟨A', co, rfl, -⟩ := ho
  obtain ⟨A1, c1, rfl, -⟩ := ha
  obtain ⟨A2, c2, rfl, -⟩ := hb
  unfold cirV
  go_enter Tryz.func56, Tryz.ntmps56
  go_wp2_with fail
  refine (c_impl_IsCircuit (H.out.alloc _)).mono ?_
  rintro e w1 ⟨rfl, hb1⟩
  have HB := Lib.hid (lit_trans hb1)
  have HX := Lib.hid ((Blk.new w 26 #[.int .i64 c.i0, .int .i64 c.i1, .slice A c.gs.length cg, .slice A' c.outs.length co]).step hb1)
  clear hb1
  rcases hc : cirB c with _ | _
  · have HM := Lib.hid (show askedB c a b = false by simp [askedB, hc])
    go_wp2
    go_ret; exact ⟨by rw [HM.out]; rfl, HB.out⟩
  have HC := Lib.hid hc
  clear hc
  go_wp2_with fail
  refine (c_impl_AreBits (HA.out.below HB.out) hla).mono ?_
  rintro e w2 ⟨rfl, hb2⟩
  replace HB := Lib.hid (below_step HB.out hb2)
  replace HX := Lib.hid (HX.out.step hb2)
  clear hb2
  rcases h1 : bitsB 64 a with _ | _
  · have HM := Lib.hid (asked_no (b := b) HC.out (by omega) (Or.inl h1))
    go_wp2
    go_ret; exact ⟨by rw [HM.out]; rfl, HB.out⟩
  have H1 := Lib.hid h1
  clear h1
  go_wp2_with fail
  refine (c_impl_AreBits (HV.out.below HB.out) hlb).mono ?_
  rintro e w3 ⟨rfl, hb3⟩
  replace HB := Lib.hid (below_step HB.out hb3)
  replace HX := Lib.hid (HX.out.step hb3)
  clear hb3
  rcases h2 : bitsB 64 b with _ | _
  · have HM := Lib.hid (asked_no (a := a) HC.out (by omega) (Or.inr h2))
    go_wp2
    go_ret; exact ⟨by rw [HM.out]; rfl, HB.out⟩
  have H2 := Lib.hid h2
  clear h2
  have x0 : _ = some (Value.int .i64 c.i0) := HX.out.cell 0
  have x1 : _ = some (Value.int .i64 c.i1) := HX.out.cell 1
  rcases h3 : ((a.length : Int) == c.i0) with _ | _
  · have HM := Lib.hid (show askedB c a b = false by have : ¬ (a.length : Int) = c.i0 := by simpa using h3
                                                     simp [askedB, this])
    go_wp2
    go_ret; exact ⟨by rw [HM.out]; rfl, HB.out⟩
  have H3 := Lib.hid (show (a.length : Int) = c.i0 by simpa using h3)
  rcases h4 : ((b.length : Int) == c.i1) with _ | _
  · have HM := Lib.hid (show askedB c a b = false by have : ¬ (b.length : Int) = c.i1 := by simpa using h4
                                                     simp [askedB, this])
    go_wp2
    go_ret; exact ⟨by rw [HM.out]; rfl, HB.out⟩
  have HM := Lib.hid (show askedB c a b = true by have h4' : (b.length : Int) = c.i1 := by simpa using h4
                                                  simp only [askedB, HC.out, (bitsB_of H1.out).2, (bitsB_of H2.out).2, H3.out, h4', decide_true, Bool.and_true])
  go_wp2
  go_ret; exact ⟨by rw [HM.out]; rfl, HB.out⟩
set_option maxRecDepth 100000 in
set_option maxHeartbeats 800000 in
theorem c_spec_ciAsked {c : Cir} {gv ov va vb : Value} {a b : List Int} {w : World} (h : CirIn w gv ov c) (ha : Ints w va a) (hb : Ints w vb b) (hla : a.length ≤ 1048576) (hlb : b.length ≤ 1048576) :
    Calls Tryz.prog 60 #[cirV c gv ov, va, vb] w fun e w' => e = .returned (.bool (askedB c a b)) ∧ Below w.heap.size w w' := by
  have H := Lib.hid h
  have HA := Lib.hid ha
  have HV := Lib.hid hb
  obtain ⟨hg, ho⟩ := h
  obtain ⟨A, cg, rfl, -⟩ := hg
  obtain ⟨A', co, rfl, -⟩ := ho
  obtain ⟨A1, c1, rfl, -⟩ := ha
  obtain ⟨A2, c2, rfl, -⟩ := hb
  unfold cirV
  go_enter Tryz.func60, Tryz.ntmps60
  go_wp2_with fail
  refine (c_spec_ciGood (H.out.alloc _)).mono ?_
  rintro e w1 ⟨rfl, hb1⟩
  have HB := Lib.hid (lit_trans hb1)
  have HX := Lib.hid ((Blk.new w 26 #[.int .i64 c.i0, .int .i64 c.i1, .slice A c.gs.length cg, .slice A' c.outs.length co]).step hb1)
  clear hb1
  rcases hc : cirB c with _ | _
  · have HM := Lib.hid (show askedB c a b = false by simp [askedB, hc])
    go_wp2
    go_ret; exact ⟨by rw [HM.out]; rfl, HB.out⟩
  have HC := Lib.hid hc
  clear hc
  go_wp2_with fail
  refine (c_spec_btGoodB (HA.out.below HB.out) hla).mono ?_
  rintro e w2 ⟨rfl, hb2⟩
  replace HB := Lib.hid (below_step HB.out hb2)
  replace HX := Lib.hid (HX.out.step hb2)
  clear hb2
  rcases h1 : bitsB 20 a with _ | _
  · have HM := Lib.hid (asked_no (b := b) HC.out (by omega) (Or.inl h1))
    go_wp2
    go_ret; exact ⟨by rw [HM.out]; rfl, HB.out⟩
  have H1 := Lib.hid h1
  clear h1
  go_wp2_with fail
  refine (c_spec_btGoodB (HV.out.below HB.out) hlb).mono ?_
  rintro e w3 ⟨rfl, hb3⟩
  replace HB := Lib.hid (below_step HB.out hb3)
  replace HX := Lib.hid (HX.out.step hb3)
  clear hb3
  rcases h2 : bitsB 20 b with _ | _
  · have HM := Lib.hid (asked_no (a := a) HC.out (by omega) (Or.inr h2))
    go_wp2
    go_ret; exact ⟨by rw [HM.out]; rfl, HB.out⟩
  have H2 := Lib.hid h2
  clear h2
  have x0 : _ = some (Value.int .i64 c.i0) := HX.out.cell 0
  have x1 : _ = some (Value.int .i64 c.i1) := HX.out.cell 1
  rcases h3 : ((a.length : Int) == c.i0) with _ | _
  · have HM := Lib.hid (show askedB c a b = false by have : ¬ (a.length : Int) = c.i0 := by simpa using h3
                                                     simp [askedB, this])
    go_wp2
    go_ret; exact ⟨by rw [HM.out]; rfl, HB.out⟩
  have H3 := Lib.hid (show (a.length : Int) = c.i0 by simpa using h3)
  rcases h4 : ((b.length : Int) == c.i1) with _ | _
  · have HM := Lib.hid (show askedB c a b = false by have : ¬ (b.length : Int) = c.i1 := by simpa using h4
                                                     simp [askedB, this])
    go_wp2
    go_ret; exact ⟨by rw [HM.out]; rfl, HB.out⟩
  have HM := Lib.hid (show askedB c a b = true by have h4' : (b.length : Int) = c.i1 := by simpa using h4
                                                  simp only [askedB, HC.out, (bitsB_of H1.out).2, (bitsB_of H2.out).2, H3.out, h4', decide_true, Bool.and_true])
  go_wp2
  go_ret; exact ⟨by rw [HM.out]; rfl, HB.out⟩
end Go.Proofs.YtejeppjmlgfiaaaGreat
