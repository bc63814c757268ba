/- Contracts of sums of shares. Conditions: the lists are short. -/
import Derived.Test.YtmccfdaaneemfaaPtsB
import Derived.Deep.RegionHeld3
namespace Go.Proofs.Ytmccfdaaneemfaa
open Go.RowKit
set_option linter.unusedVariables false

def addM (p : Int) (a b : List Int) : List Int := List.zipWith (fun x y => (x + y) % p) a b
theorem addM_snoc {p : Int} {a b : List Int} {k : Nat} {x y : Int} (hx : a[k]? = some x) (hy : b[k]? = some y) : addM p (a.take (k + 1)) (b.take (k + 1)) = addM p (a.take k) (b.take k) ++ [(x + y) % p] := by
  have ha : k < a.length := (List.getElem?_eq_some_iff.1 hx).1
  have hb : k < b.length := (List.getElem?_eq_some_iff.1 hy).1
  rw [take_snoc hx, take_snoc hy]
  unfold addM
  rw [List.zipWith_append (by simp; omega)]; rfl
/-- Values of a field, few of them. -/
noncomputable def shB (p : Int) (l : List Int) : Bool := fpInB p l && decide ((l.length : Int) ≤ 40)
noncomputable def addOM (p : Int) (a b : List Int) : Option (List Int) := if shB p a && shB p b && decide ((a.length : Int) = (b.length : Int)) then some (addM p a b) else none
theorem c_impl_areShares {v : Value} {l : List Int} {p : Int} {w : World} (h : Ints w v l) (hl : l.length ≤ 2097152) : Calls Try.prog 89 #[.int .i64 p, v] w fun e w' => e = .returned (.bool (shB p l)) ∧ Below w.heap.size w w' := by
  have H := Lib.hid h
  obtain ⟨A, c, rfl, -⟩ := h
  rcases hF : fpInB p l with _ | _
  · go_enter Try.func89, Try.ntmps89
    go_wp2_with fail
    refine (c_impl_areElements H.out hl).mono ?_
    rintro e w1 ⟨rfl, hb1⟩
    go_wp2
    go_ret; exact ⟨by simp [shB, hF], hb1⟩
  · have HM := Lib.hid (show shB p l = decide ((l.length : Int) ≤ 40) by unfold shB; rw [hF]; rfl)
    go_enter Try.func89, Try.ntmps89
    go_wp2_with fail
    refine (c_impl_areElements H.out hl).mono ?_
    rintro e w1 ⟨rfl, hb1⟩
    go_wp2
    go_ret; exact ⟨by rw [HM.out]; rfl, hb1⟩
theorem c_AddShares1 {x y : Int} {w : World} (hx : 0 ≤ x ∧ x ≤ 300) (hy : 0 ≤ y ∧ y ≤ 300) : Calls Try.prog 95 #[.int .i64 x, .int .i64 y] w fun e w' => e = .returned (.int .i64 (x + y)) ∧ w = w' := by
  go_enter Try.func95, Try.ntmps95
  go_wp2
  go_ret; exact ⟨rfl, rfl⟩
set_option maxRecDepth 100000 in
set_option maxHeartbeats 2000000 in
theorem c_impl_combined_add {va vb : Value} {a b : List Int} {p : Int} {w : World} (ha : Ints w va a) (hb' : Ints w vb b) (hla : a.length ≤ 2097152) (hlb : b.length ≤ 2097152) :
    Calls Try.prog 83 #[.int .i64 p, va, vb, .func (.func 95) #[] #[]] w (RetIB w (addOM p a b)) := by
  have HA := Lib.hid ha
  have HB := Lib.hid hb'
  obtain ⟨A, c, rfl, hlc, hcm, hrd⟩ := ha
  obtain ⟨A', c', rfl, hlc', hcm', hrd'⟩ := hb'
  rcases hSA : shB p a with _ | _
  · have HM := Lib.hid (show addOM p a b = none by unfold addOM; rw [hSA]; rfl)
    go_enter Try.func83, Try.ntmps83
    go_wp2_with fail
    refine (c_impl_areShares HA.out hla).mono ?_
    rintro e w1 ⟨rfl, hb1⟩
    go_wp2
    go_ret2; rw [HM.out]; exact RetIB.no_below hb1
  · rcases hSB : shB p b with _ | _
    · have HM := Lib.hid (show addOM p a b = none by unfold addOM; rw [hSA, hSB]; rfl)
      go_enter Try.func83, Try.ntmps83
      go_wp2_with fail
      refine (c_impl_areShares HA.out hla).mono ?_
      rintro e w1 ⟨rfl, hb1⟩
      go_wp2_with fail
      refine (c_impl_areShares (HB.out.below hb1) hlb).mono ?_
      rintro e w2 ⟨rfl, hb2⟩
      go_wp2
      go_ret2; rw [HM.out]; exact RetIB.no_below (below_step hb1 hb2)
    · rcases hn : ((a.length : Int) != (b.length : Int)) with _ | _
      · have hab : (a.length : Int) = (b.length : Int) := by simpa using hn
        have HM := Lib.hid (show addOM p a b = some (addM p a b) by unfold addOM; rw [hSA, hSB, decide_eq_true hab]; rfl)
        have h1 := hSA
        have h2 := hSB
        simp only [shB, Bool.and_eq_true, decide_eq_true_eq] at h1 h2
        obtain ⟨hf, hba⟩ := fpInB_of h1.1
        obtain ⟨-, hbb⟩ := fpInB_of h2.1
        have hpb := fldB_bd hf
        have hla4 : a.length ≤ 40 := by have := h1.2; omega
        have HBA := Lib.hid hba
        have HBB := Lib.hid hbb
        have HAB := Lib.hid (show a.length = b.length by omega)
        have hp0 : ¬ p = 0 := by omega
        clear hf hba hbb h1 h2 hab
        go_enter Try.func83, Try.ntmps83
        go_wp2_with fail
        refine (c_impl_areShares HA.out hla).mono ?_
        rintro e w1 ⟨rfl, hb1⟩
        go_wp2_with fail
        refine (c_impl_areShares (HB.out.below hb1) hlb).mono ?_
        rintro e w2 ⟨rfl, hb2⟩
        have HB2 := Lib.hid (below_step hb1 hb2)
        have hz2 := HB2.out.size
        clear hb1 hb2
        go_wp2
        go_loopw [10, 32] (fun u i wr => ∃ k : Nat, k ≤ a.length ∧ i = .int .i64 k ∧ OwnI wr w.heap.size u (addM p (a.take k) (b.take k)) ∧ Below w.heap.size w wr) (fun _ i _ => a.length - (intOf i).toNat)
        case atStart => exact ⟨0, Nat.zero_le _, rfl, OwnI.empty hz2, HB2.out.alloc hz2 _⟩
        case round =>
          obtain ⟨k, hk, rfl, hown, hb⟩ := hrel
          by_cases hlt : k < a.length
          · obtain ⟨b1, o1, x, rfl, hbl, hxk, hcell⟩ := hrd.int_at hlt
            obtain ⟨b2, o2, y, rfl, hbl2, hyk, hcell2⟩ := hrd'.int_at (k := k) (by rw [← HAB.out]; exact hlt)
            have hx1 := HBA.out x (List.mem_of_getElem? hxk)
            have hy1 := HBB.out y (List.mem_of_getElem? hyk)
            have HT := Lib.hid (addM_snoc (p := p) hxk hyk)
            have hlen : (addM p (a.take k) (b.take k)).length ≤ 40 := by simp [addM]; omega
            have hsz := hb.size
            have hk0 : (0 : Int) ≤ (k : Int) := Int.natCast_nonneg _
            have hk1 : (k : Int) < (a.length : Int) := by omega
            have hk2 : (k : Int) < (b.length : Int) := by have := HAB.out; omega
            have e1 := (hb.cell (p := ⟨b1, o1 + k, none⟩) hbl).trans hcell
            have e2 := (hb.cell (p := ⟨b2, o2 + k, none⟩) hbl2).trans hcell2
            have C1 := Lib.hid hcell
            have C2 := Lib.hid hcell2
            have HO := Lib.hid hown
            have HB0 := Lib.hid hb
            have hxy : 0 ≤ x + y := by omega
            have hmx := mod_bd (x + y) (p := p) (by omega)
            have hmp : 0 ≤ (x + y) % p + p := by omega
            have ew : IntKind.i64.wrap ((x + y) % p + p) = (x + y) % p + p := IntWalk.i64_in _ (by omega)
            have HZ := Lib.hid (show (IntKind.i64.wrap ((x + y).tmod p + p)).tmod p = (x + y) % p by
              rw [Int.tmod_eq_emod_of_nonneg hxy, ew, Int.tmod_eq_emod_of_nonneg hmp, Int.add_emod_right]; exact Int.emod_emod _ _)
            generalize addM p (a.take k) (b.take k) = Sk at *
            clear hxk hyk hcell hcell2 hown hb
            go_wp2_with fail
            go_region_held3 (fun w' => w'.cell? ⟨b1, o1 + k, none⟩ = some (.int .i64 x) ∧ w'.cell? ⟨b2, o2 + k, none⟩ = some (.int .i64 y))
              (first | go_keep | exact ⟨e1, e2⟩ | exact ⟨(HBQ.out.cell (p := ⟨b1, o1 + k, none⟩) hbl).trans C1.out, (HBQ.out.cell (p := ⟨b2, o2 + k, none⟩) hbl2).trans C2.out⟩)
              (first
                | (go_at_call 95; refine (c_AddShares1 (by omega) (by omega)).mono ?_; rintro e w' ⟨rfl, rfl⟩)
                | (refine step_app1 (B := w.heap.size) (by rfl) (by rfl) Try.underlying32 info_int rfl ((World.ownsRow.alloc HO.out _).drew) (cell_new wr _ _) (by rfl) (by rfl) rfl (by unfold maxLen; omega) (by omega) (by simp; omega) ?_; intro v' w1 ho hg hfr; have HBQ := Lib.hid ((HB0.out.alloc hsz _).drew.grown hg (by simp; omega) (fun g hg' => own_ge HO.out g hg'))))
            go_wp2
            go_roundw
            case rel => exact ⟨k + 1, by omega, by go_num, by rw [HT.out]; first | exact OwnI.snoc ho | (have := OwnI.snoc ho; rwa [HZ.out] at this), HBQ.out⟩
            case measure => simp [intOf]; omega
          · have HE := Lib.hid (show a.take k = a from List.take_of_length_le (by omega))
            have HE2 := Lib.hid (show b.take k = b from List.take_of_length_le (by rw [← HAB.out]; omega))
            go_wp2
            go_ret2; rw [HM.out]
            exact RetIB.yes (by rw [HE.out, HE2.out] at hown; exact hown) hb
      · have HM := Lib.hid (show addOM p a b = none by
          have hab : ¬ (a.length : Int) = (b.length : Int) := by simpa using hn
          unfold addOM; rw [decide_eq_false hab]; simp)
        go_enter Try.func83, Try.ntmps83
        go_wp2_with fail
        refine (c_impl_areShares HA.out hla).mono ?_
        rintro e w1 ⟨rfl, hb1⟩
        go_wp2_with fail
        refine (c_impl_areShares (HB.out.below hb1) hlb).mono ?_
        rintro e w2 ⟨rfl, hb2⟩
        go_wp2
        go_ret2; rw [HM.out]; exact RetIB.no_below (below_step hb1 hb2)
theorem c_impl_AddShares {va vb : Value} {a b : List Int} {p : Int} {w : World} (ha : Ints w va a) (hb' : Ints w vb b) (hla : a.length ≤ 2097152) (hlb : b.length ≤ 2097152) :
    Calls Try.prog 43 #[.int .i64 p, va, vb] w (RetIB w (addOM p a b)) := by
  have HA := Lib.hid ha
  have HB := Lib.hid hb'
  obtain ⟨A, c, rfl, -⟩ := ha
  obtain ⟨A', c', rfl, -⟩ := hb'
  go_enter Try.func43, Try.ntmps43
  go_wp2_with fail
  refine (c_impl_combined_add HA.out HB.out hla hlb).mono ?_
  rintro e w1 ⟨u, rfl, hu, hb1⟩
  go_wp2
  go_ret2
  exact ⟨_, rfl, hu, hb1⟩
end Go.Proofs.Ytmccfdaaneemfaa
