/- Contracts of the exported functions on lists of labels. Conditions: the lists are short. -/
import Derived.Test.YtejeppjmlgfiaaaXor
namespace Go.Proofs.Ytejeppjmlgfiaaa
open Go.RowKit
set_option linter.unusedVariables false

def labsB (l : List Int) : Bool := allB l 0 65535 && decide (l.length ≤ 400)
def coloursOfM (l : List Int) : Option (List Int) := if labsB l then some (coloursM l) else none
def hiddenM (z c : List Int) : Option (List Int) := if labsB z && decide (c.length = z.length) && allB c 0 1 then some (xorsM (coloursM z) c) else none
theorem allB_bd {l : List Int} {lo hi : Int} (h : allB l lo hi = true) : ∀ x ∈ l, lo ≤ x ∧ x ≤ hi := by
  intro x hx; simp [allB] at h; exact inB_bd (h x hx)
theorem allB_i64 {l : List Int} {hi : Int} (h : allB l 0 hi = true) (hh : hi ≤ 9223372036854775807) : ∀ x ∈ l, 0 ≤ x ∧ x ≤ 9223372036854775807 := fun x hx => by have := allB_bd h x hx; omega
theorem coloursM_bd (l : List Int) : ∀ x ∈ coloursM l, 0 ≤ x ∧ x ≤ 1 := by intro x hx; simp [coloursM] at hx; obtain ⟨y, _, rfl⟩ := hx; omega
theorem coloursM_i64 (l : List Int) : ∀ x ∈ coloursM l, 0 ≤ x ∧ x ≤ 9223372036854775807 := fun x hx => by have := coloursM_bd l x hx; omega
theorem coloursM_length (l : List Int) : (coloursM l).length = l.length := by simp [coloursM]

theorem c_impl_ColoursOf {v : Value} {l : List Int} {w : World} (h : Ints w v l) (hl : l.length ≤ 2097152) : Calls Try.prog 31 #[v] w (RetIB w (coloursOfM l)) := by
  have H := Lib.hid h
  obtain ⟨A, c, rfl, hlc, hcm, hrd⟩ := h
  rcases h1 : allB l 0 65535 with _ | _
  · have HM := Lib.hid (show coloursOfM l = none by simp [coloursOfM, labsB, h1])
    go_enter Try.func31, Try.ntmps31
    go_wp2_with (go_at_call 51; refine (c_impl_areLabels H.out hl).mono ?_; rintro e w1 ⟨rfl, hb1⟩)
    go_ret2; rw [HM.out]; exact RetIB.no_below hb1
  · by_cases h2 : l.length ≤ 400
    · have HM := Lib.hid (show coloursOfM l = some (coloursM l) by simp [coloursOfM, labsB, h1, h2])
      go_enter Try.func31, Try.ntmps31
      go_wp2_with (first | (go_at_call 51; refine (c_impl_areLabels H.out hl).mono ?_; rintro e w1 ⟨rfl, hb1⟩) | (go_at_call 61; refine (c_impl_colours (H.out.below hb1) hl (allB_i64 h1 (by omega))).mono ?_; rintro e w2 ⟨u, rfl, hu, hb2⟩))
      go_ret2; rw [HM.out]; exact RetIB.yes (hu.mono hb1.size) (hb1.trans (hb2.mono hb1.size))
    · have HM := Lib.hid (show coloursOfM l = none by simp [coloursOfM, labsB, h2])
      go_enter Try.func31, Try.ntmps31
      go_wp2_with (go_at_call 51; refine (c_impl_areLabels H.out hl).mono ?_; rintro e w1 ⟨rfl, hb1⟩)
      go_ret2; rw [HM.out]; exact RetIB.no_below hb1
theorem c_spec_lbAll {v : Value} {l : List Int} {w : World} (h : Ints w v l) (hl : l.length ≤ 2097152) : Calls Try.prog 97 #[v] w fun e w' => e = .returned (.bool (labsB l)) ∧ w = w' := by
  have H := Lib.hid h
  obtain ⟨A, c, rfl, hlc, hcm, hrd⟩ := h
  by_cases h2 : l.length ≤ 400
  · go_enter Try.func97, Try.ntmps97
    go_wp2_with (go_at_call 58; refine (c_spec_l1All H.out hl).mono ?_; rintro e w' ⟨rfl, rfl⟩)
    go_ret; exact ⟨by simp [labsB, h2], rfl⟩
  · go_enter Try.func97, Try.ntmps97
    go_wp2_with (go_at_call 58; refine (c_spec_l1All H.out hl).mono ?_; rintro e w' ⟨rfl, rfl⟩)
    go_ret; exact ⟨by simp [labsB, h2], rfl⟩
theorem c_spec_ColoursOf {v : Value} {l : List Int} {w : World} (h : Ints w v l) (hl : l.length ≤ 2097152) : Calls Try.prog 32 #[v] w (RetIB w (coloursOfM l)) := by
  have H := Lib.hid h
  obtain ⟨A, c, rfl, hlc, hcm, hrd⟩ := h
  rcases h1 : labsB l with _ | _
  · have HM := Lib.hid (show coloursOfM l = none by unfold coloursOfM; rw [h1]; rfl)
    go_enter Try.func32, Try.ntmps32
    go_wp2_with (go_at_call 97; refine (c_spec_lbAll H.out hl).mono ?_; rintro e w' ⟨rfl, rfl⟩)
    go_ret2; rw [HM.out]; exact RetIB.no w
  · have HM := Lib.hid (show coloursOfM l = some (coloursM l) by unfold coloursOfM; rw [h1]; rfl)
    have h3 : allB l 0 65535 = true := by simp [labsB] at h1; exact h1.1
    go_enter Try.func32, Try.ntmps32
    go_wp2_with (first | (go_at_call 97; refine (c_spec_lbAll H.out hl).mono ?_; rintro e w' ⟨rfl, rfl⟩) | (go_at_call 63; refine (c_spec_lbColours H.out hl (allB_i64 h3 (by omega))).mono ?_; rintro e w2 ⟨u, rfl, hu, hb2⟩))
    go_ret2; rw [HM.out]; exact RetIB.yes hu hb2
theorem labsB_allB {l : List Int} (h : labsB l = true) : allB l 0 65535 = true := by simp [labsB] at h; exact h.1
theorem enters_isBit : Enters 67 := by intro args w; simp [callFunc, Try.func67]; kernel_rfl
theorem c_impl_HiddenBits {vz vc : Value} {z c : List Int} {w : World} (hz : Ints w vz z) (hc : Ints w vc c) (hl : z.length ≤ 2097152) (hlc : c.length ≤ 2097152) :
    Calls Try.prog 28 #[vz, vc] w (RetIB w (hiddenM z c)) := by
  have HZ := Lib.hid hz
  have HC := Lib.hid hc
  obtain ⟨A, ca, rfl, _, _, _⟩ := hz
  obtain ⟨A', ca', rfl, _, _, _⟩ := hc
  rcases h1 : labsB z with _ | _
  · have HM := Lib.hid (show hiddenM z c = none by simp [hiddenM, h1])
    have HN := Lib.hid (show coloursOfM z = none by simp [coloursOfM, h1])
    go_enter Try.func28, Try.ntmps28
    go_wp2_with fail
    refine (c_impl_ColoursOf HZ.out hl).mono ?_
    rintro e w1 ⟨u, rfl, hu, hb1⟩
    rw [HN.out] at hu ⊢
    go_wp2
    go_ret2; rw [HM.out]; exact RetIB.no_below hb1
  · have HN := Lib.hid (show coloursOfM z = some (coloursM z) by simp [coloursOfM, h1])
    by_cases h2 : c.length = z.length
    · have h2' : ((c.length : Int) != (z.length : Int)) = false := by simp [h2]
      have HL := Lib.hid h2
      rcases h3 : allB c 0 1 with _ | _
      · have HM := Lib.hid (show hiddenM z c = none by simp [hiddenM, h3])
        clear h2
        go_enter Try.func28, Try.ntmps28
        go_wp2_with fail
        refine (c_impl_ColoursOf HZ.out hl).mono ?_
        rintro e w1 ⟨u, rfl, hu, hb1⟩
        rw [HN.out] at hu ⊢
        go_wp2_with fail
        refine (c_impl_areAll (K := 67) (caps := []) (p := fun x => inB x 0 1) enters_isBit (HC.out.below hb1) hlc (PredB.same fun W x => c_impl_isBit)).mono ?_
        rintro e w2 ⟨rfl, hb2⟩
        rw [show c.all (fun x => inB x 0 1) = false from h3]
        go_wp2
        go_ret2; rw [HM.out]; exact RetIB.no_below (hb1.trans (hb2.mono hb1.size))
      · have HM := Lib.hid (show hiddenM z c = some (xorsM (coloursM z) c) by simp [hiddenM, h1, h2, h3])
        clear h2
        go_enter Try.func28, Try.ntmps28
        go_wp2_with fail
        refine (c_impl_ColoursOf HZ.out hl).mono ?_
        rintro e w1 ⟨u, rfl, hu, hb1⟩
        rw [HN.out] at hu ⊢
        go_wp2_with fail
        refine (c_impl_areAll (K := 67) (caps := []) (p := fun x => inB x 0 1) enters_isBit (HC.out.below hb1) hlc (PredB.same fun W x => c_impl_isBit)).mono ?_
        rintro e w2 ⟨rfl, hb2⟩
        rw [show c.all (fun x => inB x 0 1) = true from h3]
        go_wp2_with fail
        refine (c_impl_xored (a := coloursM z) (hu.ints.below hb2) ((HC.out.below hb1).below hb2) (by rw [coloursM_length]; exact hl) (by rw [coloursM_length]; exact HL.out.symm) (coloursM_i64 z) (allB_i64 h3 (by omega))).mono ?_
        rintro e w3 ⟨u3, rfl, hu3, hb3⟩
        go_wp2
        go_ret2; rw [HM.out]
        have hb12 := hb1.trans (hb2.mono hb1.size)
        exact RetIB.yes (hu3.mono hb12.size) (hb12.trans (hb3.mono hb12.size))
    · have h2' : ((c.length : Int) != (z.length : Int)) = true := by simpa using (fun h => h2 (by omega))
      have HM := Lib.hid (show hiddenM z c = none by simp [hiddenM, h2])
      go_enter Try.func28, Try.ntmps28
      go_wp2_with fail
      refine (c_impl_ColoursOf HZ.out hl).mono ?_
      rintro e w1 ⟨u, rfl, hu, hb1⟩
      rw [HN.out] at hu ⊢
      go_wp2
      go_ret2; rw [HM.out]; exact RetIB.no_below hb1
theorem c_spec_HiddenBits {vz vc : Value} {z c : List Int} {w : World} (hz : Ints w vz z) (hc : Ints w vc c) (hl : z.length ≤ 2097152) (hlc : c.length ≤ 2097152) :
    Calls Try.prog 29 #[vz, vc] w (RetIB w (hiddenM z c)) := by
  have HZ := Lib.hid hz
  have HC := Lib.hid hc
  obtain ⟨A, ca, rfl, _, _, _⟩ := hz
  obtain ⟨A', ca', rfl, _, _, _⟩ := hc
  rcases h1 : labsB z with _ | _
  · have HM := Lib.hid (show hiddenM z c = none by simp [hiddenM, h1])
    go_enter Try.func29, Try.ntmps29
    go_wp2_with (go_at_call 97; refine (c_spec_lbAll HZ.out hl).mono ?_; rintro e w' ⟨rfl, rfl⟩)
    go_ret2; rw [HM.out]; exact RetIB.no w
  · by_cases h2 : c.length = z.length
    · have h2' : ((c.length : Int) != (z.length : Int)) = false := by simp [h2]
      have HL := Lib.hid h2
      rcases h3 : allB c 0 1 with _ | _
      · have HM := Lib.hid (show hiddenM z c = none by simp [hiddenM, h3])
        clear h2
        go_enter Try.func29, Try.ntmps29
        go_wp2_with (first | (go_at_call 97; refine (c_spec_lbAll HZ.out hl).mono ?_; rintro e w' ⟨rfl, rfl⟩) | (go_at_call 58; refine (c_spec_l1All HC.out hlc).mono ?_; rintro e w' ⟨rfl, rfl⟩))
        go_ret2; rw [HM.out]; exact RetIB.no w
      · have HM := Lib.hid (show hiddenM z c = some (xorsM (coloursM z) c) by simp [hiddenM, h1, h2, h3])
        have h4 := allB_i64 (labsB_allB h1) (by omega)
        have H4 := Lib.hid h4
        clear h2 h4
        go_enter Try.func29, Try.ntmps29
        go_wp2_with (first | (go_at_call 97; refine (c_spec_lbAll HZ.out hl).mono ?_; rintro e w' ⟨rfl, rfl⟩) | (go_at_call 58; refine (c_spec_l1All HC.out hlc).mono ?_; rintro e w' ⟨rfl, rfl⟩))
        refine (c_spec_lbColours HZ.out hl H4.out).mono ?_
        rintro e w1 ⟨u, rfl, hu, hb1⟩
        go_wp2_with fail
        refine (c_spec_btXor (a := coloursM z) hu.ints (HC.out.below hb1) (by rw [coloursM_length]; exact hl) (by rw [coloursM_length]; exact HL.out.symm) (coloursM_i64 z) (allB_i64 h3 (by omega))).mono ?_
        rintro e w3 ⟨u3, rfl, hu3, hb3⟩
        go_wp2
        go_ret2; rw [HM.out]
        exact RetIB.yes (hu3.mono hb1.size) (hb1.trans (hb3.mono hb1.size))
    · have h2' : ((c.length : Int) != (z.length : Int)) = true := by simpa using (fun h => h2 (by omega))
      have HM := Lib.hid (show hiddenM z c = none by simp [hiddenM, h2])
      go_enter Try.func29, Try.ntmps29
      go_wp2_with (go_at_call 97; refine (c_spec_lbAll HZ.out hl).mono ?_; rintro e w' ⟨rfl, rfl⟩)
      go_ret2; rw [HM.out]; exact RetIB.no w
end Go.Proofs.Ytejeppjmlgfiaaa
