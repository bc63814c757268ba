/- Contracts of lists that are made of a list of shares, with the closures of ScaleShare and ShiftShare. Conditions: the lists are short. -/
import Derived.Test.YtmccfdaaneemfaaShrM
import Derived.Deep.RegionHeld3
namespace Go.Proofs.Ytmccfdaaneemfaa
open Go.RowKit
set_option linter.unusedVariables false

theorem c_ScaleShare1 {x y s : Int} {q : Nat} {w : World} (hq : w.cell? ⟨q, 0, none⟩ = some (.int .i64 s)) (hx : 0 ≤ x ∧ x ≤ 300) (hy : 0 ≤ y ∧ y ≤ 300) (hs : 0 ≤ s ∧ s ≤ 300) : Calls Try.prog 86 #[.int .i64 x, .int .i64 y, .pointer (some ⟨q, 0, none⟩)] w fun e w' => e = .returned (.int .i64 (x * s)) ∧ w = w' := by
  have hxk := mulBd2 hx hs
  go_enter Try.func86, Try.ntmps86
  go_wp2
  go_ret; exact ⟨rfl, rfl⟩
set_option maxRecDepth 100000 in
set_option maxHeartbeats 2000000 in
theorem c_combined_ScaleShare {va vb : Value} {a b : List Int} {p : Int} {w : World} (ha : Ints w va a) (hb' : Ints w vb b) (hla : a.length ≤ 2097152) (hlb : b.length ≤ 2097152) {s : Int} {q : Nat} (hq : w.cell? ⟨q, 0, none⟩ = some (.int .i64 s)) (hql : q < w.heap.size) (hs : 0 ≤ s ∧ s ≤ 300) :
    Calls Try.prog 83 #[.int .i64 p, va, vb, .func (.func 86) #[] #[.pointer (some ⟨q, 0, none⟩)]] w (RetIB w (combM (fun x y => x * s) p a b)) := by
  have HA := Lib.hid ha
  have HB := Lib.hid hb'
  obtain ⟨A, c, rfl, hlc, hcm, hrd⟩ := ha
  obtain ⟨A', c', rfl, hlc', hcm', hrd'⟩ := hb'
  rcases hSA : shB p a with _ | _
  · have HM := Lib.hid (show combM (fun x y => x * s) p a b = none by unfold combM; rw [hSA]; rfl)
    go_enter Try.func83, Try.ntmps83
    go_wp2_with fail
    refine (c_impl_areShares HA.out hla).mono ?_
    rintro e w1 ⟨rfl, hb1⟩
    go_wp2
    go_ret2; rw [HM.out]; exact RetIB.no_below hb1
  · rcases hSB : shB p b with _ | _
    · have HM := Lib.hid (show combM (fun x y => x * s) p a b = none by unfold combM; rw [hSA, hSB]; rfl)
      go_enter Try.func83, Try.ntmps83
      go_wp2_with fail
      refine (c_impl_areShares HA.out hla).mono ?_
      rintro e w1 ⟨rfl, hb1⟩
      go_wp2_with fail
      refine (c_impl_areShares (HB.out.below hb1) hlb).mono ?_
      rintro e w2 ⟨rfl, hb2⟩
      go_wp2
      go_ret2; rw [HM.out]; exact RetIB.no_below (below_step hb1 hb2)
    · rcases hn : ((a.length : Int) != (b.length : Int)) with _ | _
      · have hab : (a.length : Int) = (b.length : Int) := by simpa using hn
        have HM := Lib.hid (show combM (fun x y => x * s) p a b = some (combN (fun x y => x * s) p a b) by unfold combM; rw [hSA, hSB, decide_eq_true hab]; rfl)
        have h1 := hSA
        have h2 := hSB
        simp only [shB, Bool.and_eq_true, decide_eq_true_eq] at h1 h2
        obtain ⟨hf, hba⟩ := fpInB_of h1.1
        obtain ⟨-, hbb⟩ := fpInB_of h2.1
        have hpb := fldB_bd hf
        have hla4 : a.length ≤ 40 := by have := h1.2; omega
        have HBA := Lib.hid hba
        have HBB := Lib.hid hbb
        have HAB := Lib.hid (show a.length = b.length by omega)
        have hp0 : ¬ p = 0 := by omega
        clear hf hba hbb h1 h2 hab
        go_enter Try.func83, Try.ntmps83
        go_wp2_with fail
        refine (c_impl_areShares HA.out hla).mono ?_
        rintro e w1 ⟨rfl, hb1⟩
        go_wp2_with fail
        refine (c_impl_areShares (HB.out.below hb1) hlb).mono ?_
        rintro e w2 ⟨rfl, hb2⟩
        have HB2 := Lib.hid (below_step hb1 hb2)
        have hz2 := HB2.out.size
        clear hb1 hb2
        go_wp2
        go_loopw [10, 32] (fun u i wr => ∃ k : Nat, k ≤ a.length ∧ i = .int .i64 k ∧ OwnI wr w.heap.size u (combN (fun x y => x * s) p (a.take k) (b.take k)) ∧ Below w.heap.size w wr) (fun _ i _ => a.length - (intOf i).toNat)
        case atStart => exact ⟨0, Nat.zero_le _, rfl, OwnI.empty hz2, HB2.out.alloc hz2 _⟩
        case round =>
          obtain ⟨k, hk, rfl, hown, hb⟩ := hrel
          by_cases hlt : k < a.length
          · obtain ⟨b1, o1, x, rfl, hbl, hxk, hcell⟩ := hrd.int_at hlt
            obtain ⟨b2, o2, y, rfl, hbl2, hyk, hcell2⟩ := hrd'.int_at (k := k) (by rw [← HAB.out]; exact hlt)
            have hx1 := HBA.out x (List.mem_of_getElem? hxk)
            have hy1 := HBB.out y (List.mem_of_getElem? hyk)
            have HT := Lib.hid (combN_snoc (f := fun x y => x * s) (p := p) hxk hyk)
            have hlen : (combN (fun x y => x * s) p (a.take k) (b.take k)).length ≤ 40 := by simp [combN]; omega
            have hsz := hb.size
            have hk0 : (0 : Int) ≤ (k : Int) := Int.natCast_nonneg _
            have hk1 : (k : Int) < (a.length : Int) := by omega
            have hk2 : (k : Int) < (b.length : Int) := by have := HAB.out; omega
            have e1 := (hb.cell (p := ⟨b1, o1 + k, none⟩) hbl).trans hcell
            have e2 := (hb.cell (p := ⟨b2, o2 + k, none⟩) hbl2).trans hcell2
            have C1 := Lib.hid hcell
            have C2 := Lib.hid hcell2
            have HO := Lib.hid hown
            have HB0 := Lib.hid hb
            have hz : -1000000 ≤ x * s ∧ x * s ≤ 1000000 := by have := mulBd2 (a := 300) (b := 300) (x := x) (y := s) (by omega) hs; omega
            have hmx := mod_bd (x * s) (p := p) (by omega)
            have htb := tmod_bd (x * s) (m := p) (by omega)
            have ew : IntKind.i64.wrap ((x * s).tmod p + p) = (x * s).tmod p + p := IntWalk.i64_in _ (by omega)
            have HZ := Lib.hid (show (IntKind.i64.wrap ((x * s).tmod p + p)).tmod p = (x * s) % p by rw [ew, Int.tmod_eq_emod_of_nonneg (show 0 ≤ (x * s).tmod p + p by omega)]; exact tmod_mod _ p)
            clear ew
            have hqr := (HB0.out.cell (p := ⟨q, 0, none⟩) hql).trans hq
            generalize combN (fun x y => x * s) p (a.take k) (b.take k) = Sk at *
            clear hxk hyk hcell hcell2 hown hb
            go_wp2_with fail
            go_region_held3 (fun w' => w'.cell? ⟨b1, o1 + k, none⟩ = some (.int .i64 x) ∧ w'.cell? ⟨b2, o2 + k, none⟩ = some (.int .i64 y))
              (first | go_keep | exact ⟨e1, e2⟩ | exact ⟨(HBQ.out.cell (p := ⟨b1, o1 + k, none⟩) hbl).trans C1.out, (HBQ.out.cell (p := ⟨b2, o2 + k, none⟩) hbl2).trans C2.out⟩)
              (first
                | (go_at_call 86; refine (c_ScaleShare1 (x := x) (y := y) (w := wr.drew) (s := s) hqr (by omega) (by omega) hs).mono ?_; rintro e w' ⟨rfl, rfl⟩)
                | (refine step_app1 (B := w.heap.size) (by rfl) (by rfl) Try.underlying32 info_int rfl ((World.ownsRow.alloc HO.out _).drew) (cell_new wr _ _) (by rfl) (by rfl) rfl (by unfold maxLen; omega) (by omega) (by simp; omega) ?_; intro v' w1 ho hg hfr; have HBQ := Lib.hid ((HB0.out.alloc hsz _).drew.grown hg (by simp; omega) (fun g hg' => own_ge HO.out g hg'))))
            go_wp2
            go_roundw
            case rel => exact ⟨k + 1, by omega, by go_num, by rw [HT.out]; first | exact OwnI.snoc ho | (have := OwnI.snoc ho; rwa [HZ.out] at this), HBQ.out⟩
            case measure => simp [intOf]; omega
          · have HE := Lib.hid (show a.take k = a from List.take_of_length_le (by omega))
            have HE2 := Lib.hid (show b.take k = b from List.take_of_length_le (by rw [← HAB.out]; omega))
            go_wp2
            go_ret2; rw [HM.out]
            exact RetIB.yes (by rw [HE.out, HE2.out] at hown; exact hown) hb
      · have HM := Lib.hid (show combM (fun x y => x * s) p a b = none by
          have hab : ¬ (a.length : Int) = (b.length : Int) := by simpa using hn
          unfold combM; rw [decide_eq_false hab]; simp)
        go_enter Try.func83, Try.ntmps83
        go_wp2_with fail
        refine (c_impl_areShares HA.out hla).mono ?_
        rintro e w1 ⟨rfl, hb1⟩
        go_wp2_with fail
        refine (c_impl_areShares (HB.out.below hb1) hlb).mono ?_
        rintro e w2 ⟨rfl, hb2⟩
        go_wp2
        go_ret2; rw [HM.out]; exact RetIB.no_below (below_step hb1 hb2)
theorem c_ShiftShare1 {x y s t : Int} {q r : Nat} {w : World} (hq : w.cell? ⟨q, 0, none⟩ = some (.int .i64 s)) (hr : w.cell? ⟨r, 0, none⟩ = some (.int .i64 t)) (hx : 0 ≤ x ∧ x ≤ 300) (hy : 0 ≤ y ∧ y ≤ 300) (hs : 0 ≤ s ∧ s ≤ 300) (ht : 0 ≤ t ∧ t ≤ 1) : Calls Try.prog 84 #[.int .i64 x, .int .i64 y, .pointer (some ⟨q, 0, none⟩), .pointer (some ⟨r, 0, none⟩)] w fun e w' => e = .returned (.int .i64 (x + s * (1 - t))) ∧ w = w' := by
  have hkt := mulBd2 (x := s) (y := 1 - t) (a := 300) (b := 1) hs (by omega)
  go_enter Try.func84, Try.ntmps84
  go_wp2
  go_ret; exact ⟨rfl, rfl⟩
set_option maxRecDepth 100000 in
set_option maxHeartbeats 2000000 in
theorem c_combined_ShiftShare {va vb : Value} {a b : List Int} {p : Int} {w : World} (ha : Ints w va a) (hb' : Ints w vb b) (hla : a.length ≤ 2097152) (hlb : b.length ≤ 2097152) {s t : Int} {q r : Nat} (hq : w.cell? ⟨q, 0, none⟩ = some (.int .i64 s)) (hr : w.cell? ⟨r, 0, none⟩ = some (.int .i64 t)) (hql : q < w.heap.size) (hrl : r < w.heap.size) (hs : 0 ≤ s ∧ s ≤ 300) (ht : 0 ≤ t ∧ t ≤ 1) :
    Calls Try.prog 83 #[.int .i64 p, va, vb, .func (.func 84) #[] #[.pointer (some ⟨q, 0, none⟩), .pointer (some ⟨r, 0, none⟩)]] w (RetIB w (combM (fun x y => x + s * (1 - t)) p a b)) := by
  have HA := Lib.hid ha
  have HB := Lib.hid hb'
  obtain ⟨A, c, rfl, hlc, hcm, hrd⟩ := ha
  obtain ⟨A', c', rfl, hlc', hcm', hrd'⟩ := hb'
  rcases hSA : shB p a with _ | _
  · have HM := Lib.hid (show combM (fun x y => x + s * (1 - t)) p a b = none by unfold combM; rw [hSA]; rfl)
    go_enter Try.func83, Try.ntmps83
    go_wp2_with fail
    refine (c_impl_areShares HA.out hla).mono ?_
    rintro e w1 ⟨rfl, hb1⟩
    go_wp2
    go_ret2; rw [HM.out]; exact RetIB.no_below hb1
  · rcases hSB : shB p b with _ | _
    · have HM := Lib.hid (show combM (fun x y => x + s * (1 - t)) p a b = none by unfold combM; rw [hSA, hSB]; rfl)
      go_enter Try.func83, Try.ntmps83
      go_wp2_with fail
      refine (c_impl_areShares HA.out hla).mono ?_
      rintro e w1 ⟨rfl, hb1⟩
      go_wp2_with fail
      refine (c_impl_areShares (HB.out.below hb1) hlb).mono ?_
      rintro e w2 ⟨rfl, hb2⟩
      go_wp2
      go_ret2; rw [HM.out]; exact RetIB.no_below (below_step hb1 hb2)
    · rcases hn : ((a.length : Int) != (b.length : Int)) with _ | _
      · have hab : (a.length : Int) = (b.length : Int) := by simpa using hn
        have HM := Lib.hid (show combM (fun x y => x + s * (1 - t)) p a b = some (combN (fun x y => x + s * (1 - t)) p a b) by unfold combM; rw [hSA, hSB, decide_eq_true hab]; rfl)
        have h1 := hSA
        have h2 := hSB
        simp only [shB, Bool.and_eq_true, decide_eq_true_eq] at h1 h2
        obtain ⟨hf, hba⟩ := fpInB_of h1.1
        obtain ⟨-, hbb⟩ := fpInB_of h2.1
        have hpb := fldB_bd hf
        have hla4 : a.length ≤ 40 := by have := h1.2; omega
        have HBA := Lib.hid hba
        have HBB := Lib.hid hbb
        have HAB := Lib.hid (show a.length = b.length by omega)
        have hp0 : ¬ p = 0 := by omega
        clear hf hba hbb h1 h2 hab
        go_enter Try.func83, Try.ntmps83
        go_wp2_with fail
        refine (c_impl_areShares HA.out hla).mono ?_
        rintro e w1 ⟨rfl, hb1⟩
        go_wp2_with fail
        refine (c_impl_areShares (HB.out.below hb1) hlb).mono ?_
        rintro e w2 ⟨rfl, hb2⟩
        have HB2 := Lib.hid (below_step hb1 hb2)
        have hz2 := HB2.out.size
        clear hb1 hb2
        go_wp2
        go_loopw [10, 32] (fun u i wr => ∃ k : Nat, k ≤ a.length ∧ i = .int .i64 k ∧ OwnI wr w.heap.size u (combN (fun x y => x + s * (1 - t)) p (a.take k) (b.take k)) ∧ Below w.heap.size w wr) (fun _ i _ => a.length - (intOf i).toNat)
        case atStart => exact ⟨0, Nat.zero_le _, rfl, OwnI.empty hz2, HB2.out.alloc hz2 _⟩
        case round =>
          obtain ⟨k, hk, rfl, hown, hb⟩ := hrel
          by_cases hlt : k < a.length
          · obtain ⟨b1, o1, x, rfl, hbl, hxk, hcell⟩ := hrd.int_at hlt
            obtain ⟨b2, o2, y, rfl, hbl2, hyk, hcell2⟩ := hrd'.int_at (k := k) (by rw [← HAB.out]; exact hlt)
            have hx1 := HBA.out x (List.mem_of_getElem? hxk)
            have hy1 := HBB.out y (List.mem_of_getElem? hyk)
            have HT := Lib.hid (combN_snoc (f := fun x y => x + s * (1 - t)) (p := p) hxk hyk)
            have hlen : (combN (fun x y => x + s * (1 - t)) p (a.take k) (b.take k)).length ≤ 40 := by simp [combN]; omega
            have hsz := hb.size
            have hk0 : (0 : Int) ≤ (k : Int) := Int.natCast_nonneg _
            have hk1 : (k : Int) < (a.length : Int) := by omega
            have hk2 : (k : Int) < (b.length : Int) := by have := HAB.out; omega
            have e1 := (hb.cell (p := ⟨b1, o1 + k, none⟩) hbl).trans hcell
            have e2 := (hb.cell (p := ⟨b2, o2 + k, none⟩) hbl2).trans hcell2
            have C1 := Lib.hid hcell
            have C2 := Lib.hid hcell2
            have HO := Lib.hid hown
            have HB0 := Lib.hid hb
            have hz : -1000000 ≤ x + s * (1 - t) ∧ x + s * (1 - t) ≤ 1000000 := by have := mulBd2 (x := s) (y := 1 - t) (a := 300) (b := 1) hs (by omega); omega
            have hmx := mod_bd (x + s * (1 - t)) (p := p) (by omega)
            have htb := tmod_bd (x + s * (1 - t)) (m := p) (by omega)
            have ew : IntKind.i64.wrap ((x + s * (1 - t)).tmod p + p) = (x + s * (1 - t)).tmod p + p := IntWalk.i64_in _ (by omega)
            have HZ := Lib.hid (show (IntKind.i64.wrap ((x + s * (1 - t)).tmod p + p)).tmod p = (x + s * (1 - t)) % p by rw [ew, Int.tmod_eq_emod_of_nonneg (show 0 ≤ (x + s * (1 - t)).tmod p + p by omega)]; exact tmod_mod _ p)
            clear ew
            have hqr := (HB0.out.cell (p := ⟨q, 0, none⟩) hql).trans hq
            have hrr := (HB0.out.cell (p := ⟨r, 0, none⟩) hrl).trans hr
            generalize combN (fun x y => x + s * (1 - t)) p (a.take k) (b.take k) = Sk at *
            clear hxk hyk hcell hcell2 hown hb
            go_wp2_with fail
            go_region_held3 (fun w' => w'.cell? ⟨b1, o1 + k, none⟩ = some (.int .i64 x) ∧ w'.cell? ⟨b2, o2 + k, none⟩ = some (.int .i64 y))
              (first | go_keep | exact ⟨e1, e2⟩ | exact ⟨(HBQ.out.cell (p := ⟨b1, o1 + k, none⟩) hbl).trans C1.out, (HBQ.out.cell (p := ⟨b2, o2 + k, none⟩) hbl2).trans C2.out⟩)
              (first
                | (go_at_call 84; refine (c_ShiftShare1 (x := x) (y := y) (w := wr.drew) (s := s) (t := t) hqr hrr (by omega) (by omega) hs ht).mono ?_; rintro e w' ⟨rfl, rfl⟩)
                | (refine step_app1 (B := w.heap.size) (by rfl) (by rfl) Try.underlying32 info_int rfl ((World.ownsRow.alloc HO.out _).drew) (cell_new wr _ _) (by rfl) (by rfl) rfl (by unfold maxLen; omega) (by omega) (by simp; omega) ?_; intro v' w1 ho hg hfr; have HBQ := Lib.hid ((HB0.out.alloc hsz _).drew.grown hg (by simp; omega) (fun g hg' => own_ge HO.out g hg'))))
            go_wp2
            go_roundw
            case rel => exact ⟨k + 1, by omega, by go_num, by rw [HT.out]; first | exact OwnI.snoc ho | (have := OwnI.snoc ho; rwa [HZ.out] at this), HBQ.out⟩
            case measure => simp [intOf]; omega
          · have HE := Lib.hid (show a.take k = a from List.take_of_length_le (by omega))
            have HE2 := Lib.hid (show b.take k = b from List.take_of_length_le (by rw [← HAB.out]; omega))
            go_wp2
            go_ret2; rw [HM.out]
            exact RetIB.yes (by rw [HE.out, HE2.out] at hown; exact hown) hb
      · have HM := Lib.hid (show combM (fun x y => x + s * (1 - t)) p a b = none by
          have hab : ¬ (a.length : Int) = (b.length : Int) := by simpa using hn
          unfold combM; rw [decide_eq_false hab]; simp)
        go_enter Try.func83, Try.ntmps83
        go_wp2_with fail
        refine (c_impl_areShares HA.out hla).mono ?_
        rintro e w1 ⟨rfl, hb1⟩
        go_wp2_with fail
        refine (c_impl_areShares (HB.out.below hb1) hlb).mono ?_
        rintro e w2 ⟨rfl, hb2⟩
        go_wp2
        go_ret2; rw [HM.out]; exact RetIB.no_below (below_step hb1 hb2)
end Go.Proofs.Ytmccfdaaneemfaa
