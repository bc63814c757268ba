/- What a walk is told of a circuit that came in as an argument: its two slices read as lists. No condition. -/
import Derived.Test.YtllaojfgenopbaaOpen
import Derived.Test.YtllaojfgenopbaaCirM
import Derived.Deep.Slices
import Derived.Deep.Fields
import Derived.ChangeSame
namespace Go.Proofs.Ytllaojfgenopbaa.YtllaojfgenopbaaOpen
open Go.ChangeShapes Go.WideShapes Go.ChangeAt Go.RowKit Go.Deep
set_option linter.unusedVariables false

section
variable {H : Type} {enc : TypeId × Value → H} {P : Program} {w : World} {base : Nat} {spare : Nat → Bool} {held : Bool}
theorem open_slice_fields {t e : TypeId} {fs : Array Field} {fuel : Nat} {cs : List Value} {x : DataW H × List MemPlace} (ht : P.underlying t = some (.slice e)) (he : P.underlying e = some (.struct fs))
    (hone : oneCellFields P fs = true) (hC : P.cellsOf e = fs.size) (h : DataW.trod enc P w base spare held fuel t cs = some x) :
    cs = [.slice none 0 0] ∨
    ∃ (a : Addr) (len cap m : Nat), cs = [.slice (some a) len cap] ∧ len ≤ cap ∧ cap ≤ maxLen ∧ m = (if spare a.block then cap else len) ∧
      ∀ i, i < m → ∀ (j : Nat) (f : Field), fs[j]? = some f → ∃ (v : Value) (y : DataW H × List MemPlace) (n : Nat), w.cell? (a.add (i * fs.size + j)) = some v ∧ DataW.trod enc P w base spare held n f.type [v] = some y := by
  rcases open_slice ht h with h0 | ⟨a, len, cap, m, n, D, Pl, hcs, hb, hl, hm, hmm, hx, hi⟩
  · exact .inl h0.1
  · refine .inr ⟨a, len, cap, m, hcs, hl, hm, hmm, fun i him j f hj => ?_⟩
    obtain ⟨cs', hc, ht'⟩ := hi i him
    rw [hC] at hc
    obtain ⟨ys, n', hn', hy, hlen, hyl, hf⟩ := DataW.trod_struct he ht'
    obtain ⟨_, hcl, hat⟩ := World.cells?_some hc
    obtain ⟨ho, hk⟩ := hone_of hone j f hj
    have hjl : j < fs.size := (Array.getElem?_eq_some_iff.1 hj).1
    have hcell := hat j hjl
    have hv : cs'[j]? = some (cs'[j]'(by omega)) := List.getElem?_eq_getElem (by omega)
    have h1 := hf j f hj
    rw [ho, hk] at h1
    have hone' : (cs'.drop j).take 1 = [cs'[j]'(by omega)] := by
      rw [List.drop_eq_getElem_cons (by omega)]
      rfl
    rw [hone'] at h1
    have hys : ys[j]? = some (ys[j]'(by omega)) := List.getElem?_eq_getElem (by omega)
    refine ⟨_, _, _, ?_, h1.trans hys⟩
    rw [← Go.Deep.add_add, hcell, hv]
end

section
variable {H : Type} {enc : TypeId × Value → H} {W : World} {b0 : Nat} {base : Nat} {spare : Nat → Bool} {held : Bool} {r : Reach}

set_option maxRecDepth 100000 in
theorem ints_trod {fuel : Nat} {v : Value} {x : DataW H × List MemPlace} (h : DataW.trod enc Try.prog W base spare held fuel 23 [v] = some x) : ∃ l : List Int, Ints W v l := by
  rcases open_ints Try.underlying23 Try.underlying3 (by kernel_rfl) h with ⟨hcs, _⟩ | ⟨x, n, c, zs, hcs, _, hl, hm, hz, _, hcell, hwz⟩
  · simp at hcs; subst hcs
    exact ⟨[], none, 0, rfl, Nat.le_refl _, Nat.zero_le _, fun h => by simp at h⟩
  · simp at hcs; subst hcs
    have hz' : n ≤ zs.length := by rw [hz]; split <;> omega
    have hlen : (zs.take n).length = n := by simp; omega
    refine ⟨zs.take n, some x, c, by rw [hlen], by rw [hlen]; exact hl, hm, fun hpos => ?_⟩
    obtain ⟨b, off, spot⟩ := x
    have hp : 0 < zs.length := by simp at hpos; omega
    have hc := hcell 0 hp
    have hspot : spot = none := by simpa [Addr.add] using World.cell?_spot hc
    subst hspot
    refine ⟨b, off, rfl, World.block_lt_of_cell? W _ (by simpa [Addr.add] using hc), fun j u hu => ?_⟩
    obtain ⟨y, hy, rfl⟩ : ∃ y, (zs.take n)[j]? = some y ∧ Value.int .i64 y = u := by rw [List.getElem?_map] at hu; exact Option.map_eq_some_iff.1 hu
    have hjl : j < n := by have := (List.getElem?_eq_some_iff.1 hy).1; omega
    have hcj := hcell j (by omega)
    rw [Addr.add_lit] at hcj
    rw [hcj]
    rw [List.getElem?_take, if_pos hjl] at hy
    simp [List.getD, hy]

set_option maxRecDepth 100000 in
theorem gates_trod {fuel : Nat} {v : Value} {x : DataW H × List MemPlace} (h : DataW.trod enc Try.prog W base spare held fuel 22 [v] = some x) : ∃ gs : List Gt, Gates W v gs := by
  rcases open_slice_fields Try.underlying22 Try.underlying97 (by kernel_rfl) (by kernel_rfl) h with hcs | ⟨a, n, c, m, hcs, hl, hm, hmm, hf⟩
  · simp at hcs; subst hcs
    exact ⟨[], none, 0, rfl, Nat.le_refl _, Nat.zero_le _, fun h => by simp [gcells] at h⟩
  · simp at hcs; subst hcs
    have hmn : n ≤ m := by rw [hmm]; split <;> omega
    have hg : ∀ i, i < n → ∃ g : Gt, W.cell? (a.add (i * 3 + 0)) = some (.int .i64 g.k) ∧ W.cell? (a.add (i * 3 + 1)) = some (.int .i64 g.a) ∧ W.cell? (a.add (i * 3 + 2)) = some (.int .i64 g.b) := by
      intro i hi
      obtain ⟨v0, y0, n0, hc0, ht0⟩ := hf i (by omega) 0 _ rfl
      obtain ⟨v1, y1, n1, hc1, ht1⟩ := hf i (by omega) 1 _ rfl
      obtain ⟨v2, y2, n2, hc2, ht2⟩ := hf i (by omega) 2 _ rfl
      obtain ⟨k, e0, _, _⟩ := DataW.trod_int Try.underlying3 ht0
      obtain ⟨p, e1, _, _⟩ := DataW.trod_int Try.underlying3 ht1
      obtain ⟨q, e2, _, _⟩ := DataW.trod_int Try.underlying3 ht2
      simp at e0 e1 e2
      subst e0 e1 e2
      exact ⟨⟨k, p, q⟩, hc0, hc1, hc2⟩
    obtain ⟨gf, hgf⟩ : ∃ gf : Nat → Gt, ∀ i, i < n → W.cell? (a.add (i * 3 + 0)) = some (.int .i64 (gf i).k) ∧ W.cell? (a.add (i * 3 + 1)) = some (.int .i64 (gf i).a) ∧ W.cell? (a.add (i * 3 + 2)) = some (.int .i64 (gf i).b) :=
      ⟨fun i => if h : i < n then (hg i h).choose else ⟨0, 0, 0⟩, fun i hi => by simpa only [hi, dite_true] using (hg i hi).choose_spec⟩
    refine ⟨(List.range n).map gf, some a, c, by simp, by simpa using hl, hm, fun hpos => ?_⟩
    rw [gcells_length] at hpos
    simp only [List.length_map, List.length_range] at hpos
    obtain ⟨b, off, spot⟩ := a
    have hc := (hgf 0 (by omega)).1
    have hspot : spot = none := by simpa [Addr.add] using World.cell?_spot hc
    subst hspot
    refine ⟨b, off, rfl, World.block_lt_of_cell? W _ (by simpa [Addr.add] using hc), fun j u hu => ?_⟩
    have hjl : j < n * 3 := by have := (List.getElem?_eq_some_iff.1 hu).1; rw [gcells_length] at this; simpa using this
    have hdm : j = j / 3 * 3 + j % 3 := by omega
    have hi : j / 3 < n := by omega
    have hat := gcells_at ((List.range n).map gf) (j / 3) (gf (j / 3)) (by simp [hi])
    have hh := hgf (j / 3) hi
    have h3 : j % 3 = 0 ∨ j % 3 = 1 ∨ j % 3 = 2 := by omega
    rw [hdm] at hu ⊢
    rcases h3 with e | e | e <;> rw [e] at hu ⊢
    · have := hat.1.symm.trans hu; simp at this; subst this; simpa [Addr.add_lit] using hh.1
    · have := hat.2.1.symm.trans hu; simp at this; subst this; simpa [Addr.add_lit] using hh.2.1
    · have := hat.2.2.symm.trans hu; simp at this; subst this; simpa [Addr.add_lit] using hh.2.2

set_option maxRecDepth 100000 in
theorem in_c {v : Value} {d : DataW H} {p : List MemPlace} (hv : Value.okWide Try.prog W r b0 25 v) (h : DataW.Trod enc Try.prog W base spare held 25 v d p) :
    ∃ (c : Cir) (gv ov : Value), v = cirV c gv ov ∧ CirIn W gv ov c := by
  obtain ⟨v0, v1, v2, v3, y0, y1, y2, y3, m, rfl, rfl, rfl, h0, h1, h2, h3⟩ := Joins.open_agg4 Try.underlying25 (by kernel_rfl) (by kernel_rfl) hv h
  obtain ⟨a, e0, _, _⟩ := DataW.trod_int Try.underlying3 h0
  obtain ⟨b, e1, _, _⟩ := DataW.trod_int Try.underlying3 h1
  simp at e0 e1
  subst e0 e1
  obtain ⟨gs, hg⟩ := gates_trod h2
  obtain ⟨l, ho⟩ := ints_trod h3
  exact ⟨⟨a, b, gs, l⟩, v2, v3, rfl, hg, ho⟩
end
end Go.Proofs.Ytllaojfgenopbaa.YtllaojfgenopbaaOpen
