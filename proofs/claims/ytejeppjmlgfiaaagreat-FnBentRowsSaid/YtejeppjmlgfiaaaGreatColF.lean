/- Contracts of the exported functions on lists of labels. Conditions: the lists are short. -/
import Derived.Test.YtejeppjmlgfiaaaGreatXor
namespace Go.Proofs.YtejeppjmlgfiaaaGreat
open Go.RowKit
set_option linter.unusedVariables false

def labsB (l : List Int) : Bool := allB l 0 65535 && decide (l.length ≤ 400)
def coloursOfM (l : List Int) : Option (List Int) := if labsB l then some (coloursM l) else none
def hiddenM (z c : List Int) : Option (List Int) := if labsB z && decide (c.length = z.length) && allB c 0 1 then some (xorsM (coloursM z) c) else none
theorem allB_bd {l : List Int} {lo hi : Int} (h : allB l lo hi = true) : ∀ x ∈ l, lo ≤ x ∧ x ≤ hi := by
  intro x hx; simp [allB] at h; exact inB_bd (h x hx)
theorem allB_i64 {l : List Int} {hi : Int} (h : allB l 0 hi = true) (hh : hi ≤ 9223372036854775807) : ∀ x ∈ l, 0 ≤ x ∧ x ≤ 9223372036854775807 := fun x hx => by have := allB_bd h x hx; omega
theorem coloursM_bd (l : List Int) : ∀ x ∈ coloursM l, 0 ≤ x ∧ x ≤ 1 := by intro x hx; simp [coloursM] at hx; obtain ⟨y, _, rfl⟩ := hx; omega
theorem coloursM_i64 (l : List Int) : ∀ x ∈ coloursM l, 0 ≤ x ∧ x ≤ 9223372036854775807 := fun x hx => by have := coloursM_bd l x hx; omega
theorem coloursM_length (l : List Int) : (coloursM l).length = l.length := by simp [coloursM]

theorem c_spec_lbAll {v : Value} {l : List Int} {w : World} (h : Ints w v l) (hl : l.length ≤ 2097152) : Calls Tryz.prog 110 #[v] w fun e w' => e = .returned (.bool (labsB l)) ∧ w = w' := by
  have H := Lib.hid h
  obtain ⟨A, c, rfl, hlc, hcm, hrd⟩ := h
  by_cases h2 : l.length ≤ 400
  · go_enter Tryz.func110, Tryz.ntmps110
    go_wp2_with (go_at_call 104; refine (c_spec_l1All H.out hl).mono ?_; rintro e w' ⟨rfl, rfl⟩)
    go_ret; exact ⟨by simp [labsB, h2], rfl⟩
  · go_enter Tryz.func110, Tryz.ntmps110
    go_wp2_with (go_at_call 104; refine (c_spec_l1All H.out hl).mono ?_; rintro e w' ⟨rfl, rfl⟩)
    go_ret; exact ⟨by simp [labsB, h2], rfl⟩
theorem labsB_allB {l : List Int} (h : labsB l = true) : allB l 0 65535 = true := by simp [labsB] at h; exact h.1
theorem enters_isBit : Enters 141 := by intro args w; simp [callFunc, Tryz.func141]; kernel_rfl
end Go.Proofs.YtejeppjmlgfiaaaGreat
