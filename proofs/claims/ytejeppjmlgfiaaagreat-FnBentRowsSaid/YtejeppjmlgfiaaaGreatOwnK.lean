/- Owned slices of integers, cell by cell: a read, a store, a new one by 'make'; slices of slices. Plain lemmas; no condition but those that each names. -/
import Derived.Test.YtejeppjmlgfiaaaGreatInts
import Derived.Test.YtejeppjmlgfiaaaGreatAppK
namespace Go.Proofs.YtejeppjmlgfiaaaGreat
open Go.RowKit
set_option linter.unusedVariables false

section
variable {w w' : World} {B g n c : Nat} {l : List Int}
theorem OwnI.len (h : OwnI w B (.slice (some ⟨g, 0, none⟩) n c) l) : n = l.length := by
  obtain ⟨A, c', e, _⟩ := own_form h
  injection e
theorem OwnI.put (h : OwnI w B (.slice (some ⟨g, 0, none⟩) n c) l) (k : Nat) (y : Int) : OwnI (w.setCell ⟨g, k, none⟩ (.int .i64 y)) B (.slice (some ⟨g, 0, none⟩) n c) (l.set k y) := by
  obtain rfl := h.len
  have := (World.ownsRow.stored h k (.int .i64 y)).1
  rw [← List.map_set] at this
  unfold OwnI
  rw [List.length_set]; exact this
theorem OwnI.rd (h : OwnI w B (.slice (some ⟨g, 0, none⟩) n c) l) {k : Nat} {x : Int} (hx : l[k]? = some x) : w.cell? ⟨g, k, none⟩ = some (.int .i64 x) := by
  obtain rfl := h.len
  have hk : k < l.length := (List.getElem?_eq_some_iff.1 hx).1
  rw [World.ownsRow.cellAt h k (by omega)]; simp [hx]
theorem OwnI.free (h : OwnI w B (.slice (some ⟨g, 0, none⟩) n c) l) (k : Nat) : w.frozen? ⟨g, k, none⟩ = false := by
  obtain rfl := h.len
  exact World.ownsRow.frozenAt h k
theorem OwnI.blk (h : OwnI w B (.slice (some ⟨g, 0, none⟩) n c) l) : B ≤ g ∧ g < w.heap.size := ⟨h.ge g rfl, h.lt g rfl⟩
theorem OwnI.far {v : Value} (h : OwnI w B v l) {p : Addr} (hne : ∀ g, v.ownBlock = some g → g ≠ p.block) (u : Value) : OwnI (w.setCell p u) B v l := own_set h hne u
theorem Ints.far {v : Value} (h : Ints w v l) (hb : Below w.heap.size w w') : Ints w' v l := h.below hb
end
/-- A new slice by 'make' reads as zeros. -/
theorem own_made {w1 : World} {B g n : Nat} (h : w1.ownsRow B 3 1 (.slice (some ⟨g, 0, none⟩) n n) n (madeCells (Value.int .i64 0).cells (n * 1)).toList) : OwnI w1 B (.slice (some ⟨g, 0, none⟩) n n) (List.replicate n 0) := by
  have e := toList_madeCells_one (.int .i64 0) n
  simp only [Nat.mul_one] at h
  rw [show (Value.int IntKind.i64 0).cells = #[.int .i64 0] from rfl, e] at h
  unfold OwnI
  simpa using h
/-- A part of a slice. -/
theorem Ints.head {w : World} {A : Option Addr} {n c : Nat} {l : List Int} (h : Ints w (.slice A n c) l) {k : Nat} (hk : k ≤ l.length) : Ints w (.slice A k c) (l.take k) := by
  obtain ⟨A', c', e, h1, h2, h3⟩ := h
  injection e with e1 e2 e3
  subst e1 e3
  refine ⟨A, c, by simp [Nat.min_eq_left hk], by simp; omega, h2, fun hn => ?_⟩
  obtain ⟨b, o, rfl, hb, hc⟩ := h3 (by simp at hn ⊢; omega)
  exact ⟨b, o, rfl, hb, fun j u hu => hc j u (by rw [List.map_take, List.getElem?_take] at hu; split at hu; exact hu; cases hu)⟩
theorem Ints.headCap {w : World} {A : Option Addr} {n c : Nat} {l : List Int} (h : Ints w (.slice A n c) l) {k : Nat} (hk : k ≤ l.length) : Ints w (.slice A k k) (l.take k) := by
  obtain ⟨A', c', e, h1, h2, h3⟩ := h.head hk
  injection e with e1 e2 e3
  subst e1
  have hl : (l.take k).length = k := by simp; omega
  exact ⟨A, k, by rw [hl], by omega, by omega, h3⟩
theorem Ints.tail {w : World} {A : Option Addr} {n c : Nat} {l : List Int} (h : Ints w (.slice A n c) l) {k : Nat} (hk : k ≤ l.length) {A2 : Option Addr} (hA : A2 = if c = k then A else A.map (·.add k)) : Ints w (.slice A2 (l.length - k) (c - k)) (l.drop k) := by
  obtain ⟨A', c', e, h1, h2, h3⟩ := h
  injection e with e1 e2 e3
  subst e1 e3
  refine ⟨A2, c - k, by simp, by simp; omega, by omega, fun hn => ?_⟩
  have hkl : k < l.length := by simp at hn; omega
  obtain ⟨b, o, rfl, hb, hc⟩ := h3 (by simp; omega)
  rw [if_neg (by omega)] at hA
  subst hA
  refine ⟨b, o + k, by simp [Addr.add], hb, fun j u hu => ?_⟩
  rw [Nat.add_assoc]
  exact hc (k + j) u (by rw [List.map_drop, List.getElem?_drop] at hu; exact hu)
theorem OwnI.app {w : World} {B : Nat} {v : Value} {l m : List Int} (h : w.ownsRow B 3 1 v (l.length + m.length) (l.map (Value.int .i64) ++ m.map (Value.int .i64))) : OwnI w B v (l ++ m) := by simpa [OwnI] using h
theorem Ints.rd {w : World} {A : Option Addr} {n c : Nat} {l : List Int} (h : Ints w (.slice A n c) l) : Rd w A (l.map (Value.int .i64)) := by
  obtain ⟨A', c', e, _, _, h3⟩ := h
  injection e with e1; subst e1; exact h3
theorem set_mid {α : Type} {A l : List α} {k : Nat} {y : α} (hA : A.length = k) (hk : k < l.length) : (A ++ l.drop k).set k y = (A ++ [y]) ++ l.drop (k + 1) := by
  rw [List.set_append_right _ _ (by omega), hA, Nat.sub_self, List.drop_eq_getElem_cons hk, List.set_cons_zero]; simp
end Go.Proofs.YtejeppjmlgfiaaaGreat
