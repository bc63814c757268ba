/- What a walk is told of tables and of slices of slices that came in as arguments. No condition. -/
import Derived.Test.YtjijghfagaigbaaOpenC
import Derived.Test.YtjijghfagaigbaaGbM
namespace Go.Proofs.Ytjijghfagaigbaa.YtjijghfagaigbaaOpen
open Go.ChangeShapes Go.WideShapes Go.ChangeAt Go.RowKit Go.Deep
set_option linter.unusedVariables false
section
variable {H : Type} {enc : TypeId × Value → H} {W : World} {b0 : Nat} {base : Nat} {spare : Nat → Bool} {held : Bool} {r : Reach}
set_option maxRecDepth 100000 in
theorem rows_trod {fuel : Nat} {v : Value} {x : DataW H × List MemPlace} (h : DataW.trod enc Try.prog W base spare held fuel 22 [v] = some x) : ∃ rows : List (List Int), RowsIn W v rows := by
  rcases open_slice1 Try.underlying22 (by kernel_rfl) h with ⟨hcs, _⟩ | ⟨a, len, cap, m, n, V, D, Pl, hcs, hb, hl, hm, hmm, _, hx⟩
  · simp at hcs; subst hcs
    exact ⟨[], RowsIn.nil W⟩
  · simp at hcs; subst hcs
    have hmn : len ≤ m := by rw [hmm]; split <;> omega
    have hg : ∀ i, i < len → ∃ l : List Int, Ints W (V i) l := fun i hi => ints_trod (hx i (by omega)).2
    obtain ⟨f, hf⟩ : ∃ f : Nat → List Int, ∀ i, i < len → Ints W (V i) (f i) :=
      ⟨fun i => if h : i < len then (hg i h).choose else [], fun i hi => by simpa only [hi, dite_true] using (hg i hi).choose_spec⟩
    refine ⟨(List.range len).map f, (List.range len).map V, by simp, ⟨some a, cap, by simp, by simpa using hl, hm, fun hpos => ?_⟩, fun i u rr hu hr => ?_⟩
    · simp only [List.length_map, List.length_range] at hpos
      obtain ⟨b, off, spot⟩ := a
      have hc := (hx 0 (by omega)).1
      have hspot : spot = none := by simpa [Addr.add] using World.cell?_spot hc
      subst hspot
      refine ⟨b, off, rfl, World.block_lt_of_cell? W _ (by simpa [Addr.add] using hc), fun j u hu => ?_⟩
      have hjl : j < len := by have := (List.getElem?_eq_some_iff.1 hu).1; simpa using this
      have hcj := (hx j (by omega)).1
      rw [Addr.add_lit] at hcj
      rw [hcj]
      simp [hjl] at hu
      rw [hu]
    · have hil : i < len := by have := (List.getElem?_eq_some_iff.1 hu).1; simpa using this
      simp [hil] at hu hr
      subst hu hr
      exact hf i hil
set_option maxRecDepth 100000 in
theorem in_m {v : Value} {d : DataW H} {p : List MemPlace} (hv : Value.okWide Try.prog W r b0 22 v) (h : DataW.Trod enc Try.prog W base spare held 22 v d p) : ∃ rows : List (List Int), RowsIn W v rows := by
  obtain ⟨a0, len, cap, rfl⟩ := okWide_slice Try.underlying22 hv
  obtain ⟨fuel, hf⟩ := h
  exact rows_trod (by simpa [Value.cells] using hf)
end
end Go.Proofs.Ytjijghfagaigbaa.YtjijghfagaigbaaOpen
