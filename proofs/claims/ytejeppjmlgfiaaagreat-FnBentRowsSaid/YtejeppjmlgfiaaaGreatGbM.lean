/- Slices of slices of integers, and the tables of garbled and halved circuits, as data and as they lie in memory. Plain definitions and lemmas; no condition but those that each names. -/
import Derived.Test.YtejeppjmlgfiaaaGreatInts
namespace Go.Proofs.YtejeppjmlgfiaaaGreat
open Go.RowKit
set_option linter.unusedVariables false

/-! ### what a step may change -/
/-- The world w' differs from w in the blocks of F and in new blocks only. -/
def Only (F : List Value) (w w' : World) : Prop := Below 0 w w' ∧ ∀ b, b < w.heap.size → (∀ u ∈ F, u.ownBlock ≠ some b) → w'.heap[b]? = w.heap[b]?
section
variable {F : List Value} {a b c w w' : World}
theorem Only.refl (F : List Value) (w : World) : Only F w w := ⟨Below.refl _ _, fun _ _ _ => rfl⟩
theorem Only.size (h : Only F w w') : w.heap.size ≤ w'.heap.size := h.1.size
theorem Only.trans (h : Only F a b) (k : Only F b c) : Only F a c := ⟨h.1.trans k.1, fun i hi hF => (k.2 i (Nat.lt_of_lt_of_le hi h.1.size) hF).trans (h.2 i hi hF)⟩
theorem Only.sub {F' : List Value} (h : Only F w w') (hs : ∀ u ∈ F, u ∈ F') : Only F' w w' := ⟨h.1, fun b hb hF => h.2 b hb fun u hu => hF u (hs u hu)⟩
theorem Only.ofBelow {N : Nat} (h : Below N w w') (hN : w.heap.size ≤ N) : Only F w w' := ⟨h.mono (Nat.zero_le _), fun b hb _ => h.block b (by omega)⟩
theorem Only.ofGrown {v : Value} (h : w.grownBy w' v.ownBlock) (hv : v ∈ F) : Only F w w' :=
  ⟨⟨h.os, h.tape, h.output, h.size, fun _ hk => absurd hk (Nat.not_lt_zero _)⟩, fun b hb hF => h.block b hb fun e => hF v hv e.symm⟩
theorem Only.below {N : Nat} (h : Only F w w') (hN : N ≤ w.heap.size) (hF : ∀ u ∈ F, ∀ g, u.ownBlock = some g → N ≤ g) : Below N w w' :=
  ⟨h.1.os, h.1.tape, h.1.output, h.1.size, fun b hb => h.2 b (by omega) fun u hu e => by have := hF u hu b e; omega⟩
end

/-! ### values that lie apart -/
/-- Two values share no block. -/
def Apt (u v : Value) : Prop := ∀ g, u.ownBlock = some g → v.ownBlock ≠ some g
theorem Apt.symm {u v : Value} (h : Apt u v) : Apt v u := fun g hg e => h g e hg
theorem Apt.ofLt {u v : Value} {N : Nat} (hu : ∀ g, u.ownBlock = some g → g < N) (hv : ∀ g, v.ownBlock = some g → N ≤ g) : Apt u v := fun g hg e => by have := hu g hg; have := hv g e; omega

section
variable {w w' : World} {B E sz n : Nat} {v : Value} {xs : List Value} {l : List Int} {F : List Value}
theorem own_only (h : w.ownsRow B E sz v n xs) (ho : Only F w w') (hF : ∀ u ∈ F, Apt u v) : w'.ownsRow B E sz v n xs := by
  refine ⟨h.1, ?_⟩
  rcases h.2 with h2 | ⟨g, cap, cur, rfl, hB, hh, r⟩
  · exact .inl h2
  · have hg : g < w.heap.size := (Array.getElem?_eq_some_iff.1 hh).1
    exact .inr ⟨g, cap, cur, rfl, hB, (ho.2 g hg fun u hu e => hF u hu g e rfl).trans hh, r⟩
theorem OwnI.only (h : OwnI w B v l) (ho : Only F w w') (hF : ∀ u ∈ F, Apt u v) : OwnI w' B v l := own_only h ho hF
end

/-! ### slices of slices -/
/-- The value v is a slice whose elements are slices that read as the rows. -/
def RowsIn (w : World) (v : Value) (rows : List (List Int)) : Prop :=
  ∃ vs : List Value, vs.length = rows.length ∧ Sl w v rows.length vs ∧ ∀ (i : Nat) (u : Value) (r : List Int), vs[i]? = some u → rows[i]? = some r → Ints w u r
theorem RowsIn.below {w w' : World} {v : Value} {rows : List (List Int)} (h : RowsIn w v rows) (hb : Below w.heap.size w w') : RowsIn w' v rows := by
  obtain ⟨vs, h1, h2, h3⟩ := h; exact ⟨vs, h1, h2.below hb, fun i u r hu hr => (h3 i u r hu hr).below hb⟩
theorem RowsIn.alloc {w : World} {v : Value} {rows : List (List Int)} (h : RowsIn w v rows) (o : Obj) : RowsIn (w.alloc o) v rows := h.below ((Below.refl _ _).alloc (Nat.le_refl _) o)
theorem RowsIn.nil (w : World) : RowsIn w (.slice none 0 0) [] := ⟨[], rfl, ⟨none, 0, rfl, Nat.le_refl _, Nat.zero_le _, fun h => by simp at h⟩, fun i u r hu => by simp at hu⟩
/-- What it looks like. -/
theorem RowsIn.form {w : World} {v : Value} {rows : List (List Int)} (h : RowsIn w v rows) : ∃ A c, v = .slice A rows.length c ∧ rows.length ≤ c ∧ c ≤ maxLen ∧
    ∀ k, k < rows.length → ∃ b o A' r c', A = some ⟨b, o, none⟩ ∧ b < w.heap.size ∧ rows[k]? = some r ∧ w.cell? ⟨b, o + k, none⟩ = some (.slice A' r.length c') ∧ Ints w (.slice A' r.length c') r := by
  obtain ⟨vs, h1, ⟨A, c, rfl, h2, h3, h4⟩, h5⟩ := h
  refine ⟨A, c, rfl, h2, h3, fun k hk => ?_⟩
  obtain ⟨b, o, e, hb, hc⟩ := h4 (by omega)
  have hr : rows[k]? = some rows[k] := List.getElem?_eq_getElem hk
  have hu : vs[k]? = some (vs[k]'(by omega)) := List.getElem?_eq_getElem (by omega)
  have hi := h5 k _ _ hu hr
  obtain ⟨A', c', e', i1, i2, i3⟩ := hi
  have hcc := hc k _ hu
  rw [e'] at hcc
  exact ⟨b, o, A', rows[k], c', e, hb, hr, hcc, A', c', rfl, i1, i2, i3⟩

/-- Rows that the call owns: the outer slice and each row have blocks of their own, from B on. -/
structure OwnRs (w : World) (B : Nat) (v : Value) (vs : List Value) (rows : List (List Int)) : Prop where
  len : vs.length = rows.length
  outer : w.ownsRow B 24 1 v rows.length vs
  inner : ∀ (i : Nat) (u : Value) (r : List Int), vs[i]? = some u → rows[i]? = some r → OwnI w B u r
  apart : (v :: vs).Pairwise Apt
section
variable {w w' : World} {B : Nat} {v : Value} {vs : List Value} {rows : List (List Int)} {F : List Value}
theorem OwnRs.only (h : OwnRs w B v vs rows) (ho : Only F w w') (hF : ∀ u ∈ F, ∀ u' ∈ v :: vs, Apt u u') : OwnRs w' B v vs rows :=
  ⟨h.len, own_only h.outer ho fun u hu => hF u hu v (by simp), fun i u r hu hr => (h.inner i u r hu hr).only ho fun u' hu' => hF u' hu' u (List.mem_cons_of_mem _ (List.mem_of_getElem? hu)), h.apart⟩
theorem OwnRs.below (h : OwnRs w B v vs rows) (hb : Below w.heap.size w w') : OwnRs w' B v vs rows :=
  h.only (F := []) (Only.ofBelow hb (Nat.le_refl _)) (fun u hu => by simp at hu)
theorem OwnRs.mono {B' : Nat} (h : OwnRs w B v vs rows) (hB : B' ≤ B) : OwnRs w B' v vs rows := ⟨h.len, own_mono h.outer hB, fun i u r hu hr => (h.inner i u r hu hr).mono hB, h.apart⟩
theorem OwnRs.rowsIn (h : OwnRs w B v vs rows) : RowsIn w v rows := ⟨vs, h.len, own_sl h.outer, fun i u r hu hr => (h.inner i u r hu hr).ints⟩
/-- Each of its blocks lies from B on and is there. -/
theorem OwnRs.bd (h : OwnRs w B v vs rows) : ∀ u ∈ v :: vs, ∀ g, u.ownBlock = some g → B ≤ g ∧ g < w.heap.size := by
  intro u hu g hg
  rcases List.mem_cons.1 hu with rfl | hu
  · exact ⟨own_ge h.outer g hg, own_lt h.outer g hg⟩
  · obtain ⟨i, hi⟩ := List.getElem?_of_mem hu
    have hil : i < vs.length := (List.getElem?_eq_some_iff.1 hi).1
    have hr : rows[i]? = some (rows[i]'(by have := h.len; omega)) := List.getElem?_eq_getElem (by have := h.len; omega)
    have := h.inner i u _ hi hr
    exact ⟨this.ge g hg, this.lt g hg⟩
theorem OwnRs.nil (w : World) (B : Nat) : OwnRs w B (.slice none 0 0) [] [] := ⟨rfl, World.ownsRow_nil w B _ 1, fun i u r hu => by simp at hu, by simp⟩
theorem OwnRs.empty {w : World} {B : Nat} (hB : B ≤ w.heap.size) : OwnRs (w.alloc (.cells #[] 24)) B (.slice (some ⟨w.heap.size, 0, none⟩) 0 0) [] [] :=
  ⟨rfl, own_empty 24 1 hB, fun i u r hu => by simp at hu, by simp⟩

/-- A new row behind the others: 'append(rows, row)'. -/
theorem OwnRs.snoc {w0 w1 w2 : World} {v' u : Value} {r : List Int} (h : OwnRs w0 B v vs rows) (hb : Below w0.heap.size w0 w1) (hB : B ≤ w0.heap.size) (hu : OwnI w1 w0.heap.size u r)
    (ho : w2.ownsRow B 24 1 v' (rows.length + 1) (vs ++ [u])) (hg : w1.grownBy w2 v.ownBlock) (hfr : ∀ g, v'.ownBlock = some g → v.ownBlock = some g ∨ w1.heap.size ≤ g) :
    OwnRs w2 B v' (vs ++ [u]) (rows ++ [r]) := by
  have hbd := h.bd
  have hs := hb.size
  have hap := List.pairwise_cons.1 h.apart
  have h1 := h.below hb
  refine ⟨by simp [h.len], by simpa using ho, fun i u' r' hu' hr' => ?_, ?_⟩
  · rcases Nat.lt_or_ge i vs.length with hi | hi
    · rw [List.getElem?_append_left hi] at hu'
      rw [List.getElem?_append_left (by have := h.len; omega)] at hr'
      refine (h1.inner i u' r' hu' hr').grown hg fun g hg' e => ?_
      exact hap.1 u' (List.mem_of_getElem? hu') g e.symm hg'
    · have hi2 : i = vs.length := by have := (List.getElem?_eq_some_iff.1 hu').1; simp at this; omega
      subst hi2
      rw [List.getElem?_append_right (by omega)] at hu'
      rw [List.getElem?_append_right (by have := h.len; omega)] at hr'
      simp [h.len] at hu' hr'
      subst hu' hr'
      refine (hu.grown hg fun g hg' e => ?_).mono hB
      have a1 := hu.ge g hg'
      have a2 := (hbd v (by simp) g e.symm).2
      omega
  · refine List.pairwise_cons.2 ⟨fun u' hu' => ?_, List.pairwise_append.2 ⟨hap.2, by simp, fun x hx y hy => ?_⟩⟩
    · rcases List.mem_append.1 hu' with hm | hm
      · intro g hg' e
        rcases hfr g hg' with e1 | e1
        · exact hap.1 u' hm g e1 e
        · have := (hbd u' (List.mem_cons_of_mem _ hm) g e).2; omega
      · simp at hm; subst hm
        intro g hg' e
        have a1 := hu.ge g e
        have a3 := hu.lt g e
        rcases hfr g hg' with e1 | e1
        · have := (hbd v (by simp) g e1).2; omega
        · omega
    · simp at hy; subst hy
      exact Apt.ofLt (fun g hg' => (hbd x (List.mem_cons_of_mem _ hx) g hg').2) hu.ge

/-- Where a row is written, the rows are the new ones. -/
theorem OwnRs.put {i : Nat} {u : Value} {r : List Int} (h : OwnRs w B v vs rows) (hi : vs[i]? = some u) (hg : w.grownBy w' u.ownBlock) (hu : OwnI w' B u r) : OwnRs w' B v vs (rows.set i r) := by
  have hil : i < vs.length := (List.getElem?_eq_some_iff.1 hi).1
  have hap := List.pairwise_cons.1 h.apart
  have hne : ∀ j u', vs[j]? = some u' → j ≠ i → Apt u' u := by
    intro j u' hj hji
    have hjl : j < vs.length := (List.getElem?_eq_some_iff.1 hj).1
    have e1 := (List.getElem?_eq_some_iff.1 hj).2
    have e2 := (List.getElem?_eq_some_iff.1 hi).2
    have hp := List.pairwise_iff_getElem.1 hap.2
    rcases Nat.lt_or_gt_of_ne hji with hlt | hlt
    · have := hp j i hjl hil hlt; rw [e1, e2] at this; exact this
    · have := hp i j hil hjl hlt; rw [e1, e2] at this; exact this.symm
  refine ⟨by simp [h.len], ?_, fun j u' r' hj hr => ?_, h.apart⟩
  · have := own_grown h.outer hg (fun g hg' e => hap.1 u (List.mem_of_getElem? hi) g hg' e.symm)
    simpa using this
  · by_cases hji : j = i
    · subst hji
      rw [hi] at hj
      injection hj with hj; subst hj
      rw [List.getElem?_set_self (by have := h.len; omega)] at hr
      injection hr with hr; subst hr
      exact hu
    · rw [List.getElem?_set_ne (fun e => hji e.symm)] at hr
      exact (h.inner j u' r' hj hr).grown hg fun g hg' e => hne j u' hj hji g hg' e.symm
/-- The k-th row where it lies. -/
theorem OwnRs.at_ (h : OwnRs w B v vs rows) {k : Nat} (hk : k < rows.length) : ∃ g c u r A c', v = .slice (some ⟨g, 0, none⟩) rows.length c ∧ rows.length ≤ c ∧ c ≤ maxLen ∧ vs[k]? = some u ∧ rows[k]? = some r ∧ u = .slice A r.length c' ∧ w.cell? ⟨g, k, none⟩ = some u ∧ OwnI w B u r := by
  obtain ⟨g, c, rfl, h1, h2, h3, h4⟩ := own_pos h.outer (by omega)
  have hr : rows[k]? = some rows[k] := List.getElem?_eq_getElem hk
  have hu : vs[k]? = some (vs[k]'(by have := h.len; omega)) := List.getElem?_eq_getElem (by have := h.len; omega)
  have hi := h.inner k _ _ hu hr
  obtain ⟨A, c', e, _⟩ := hi.ints
  refine ⟨g, c, _, _, A, c', rfl, h3, h4, hu, hr, e, ?_, hi⟩
  rw [h.outer.cellAt k (by omega)]; exact hu
end

/-! ### marks -/
/-- The marks k, k + 1, .. over the rows. -/
def marksR : Int → List (List Int) → List (List Int)
  | _, [] => []
  | k, r :: rs => marks k r.length :: marksR (k + r.length) rs
def cntR (rows : List (List Int)) : Nat := (rows.map List.length).sum
theorem cntR_append (a b : List (List Int)) : cntR (a ++ b) = cntR a + cntR b := by simp [cntR]
theorem marksR_append : ∀ (a b : List (List Int)) (k : Int), marksR k (a ++ b) = marksR k a ++ marksR (k + cntR a) b
  | [], b, k => by simp [marksR, cntR]
  | r :: a, b, k => by
    simp only [List.cons_append, marksR, marksR_append a b]
    congr 3
    simp [cntR]; omega
theorem marksR_length : ∀ (rows : List (List Int)) (k : Int), (marksR k rows).length = rows.length
  | [], _ => rfl
  | r :: rs, k => by simp [marksR, marksR_length rs]
theorem cntR_marksR : ∀ (rows : List (List Int)) (k : Int), cntR (marksR k rows) = cntR rows
  | [], _ => rfl
  | r :: rs, k => by
    have := cntR_marksR rs (k + r.length)
    simp only [cntR, marksR, List.map_cons, List.sum_cons, marks_length] at this ⊢
    rw [this]
theorem cntR_take {rows : List (List Int)} {k : Nat} {r : List Int} (h : rows[k]? = some r) : cntR (rows.take (k + 1)) = cntR (rows.take k) + r.length := by rw [take_snoc h, cntR_append]; simp [cntR]
theorem cntR_take_le (rows : List (List Int)) (k : Nat) : cntR (rows.take k) ≤ cntR rows := by
  have := cntR_append (rows.take k) (rows.drop k); rw [List.take_append_drop] at this; omega
theorem cntR_len {rows : List (List Int)} {k : Nat} {r : List Int} (h : rows[k]? = some r) : r.length ≤ cntR rows := by
  have h1 := cntR_take h; have h2 := cntR_take_le rows (k + 1); omega
/-- One row more is marked. -/
theorem marksR_set {rows : List (List Int)} {j : Nat} {r : List Int} (k : Int) (h : rows[j]? = some r) :
    (marksR k (rows.take j) ++ rows.drop j).set j (marks (k + cntR (rows.take j)) r.length) = marksR k (rows.take (j + 1)) ++ rows.drop (j + 1) := by
  have hj : j < rows.length := (List.getElem?_eq_some_iff.1 h).1
  have hd : rows.drop j = r :: rows.drop (j + 1) := by rw [List.drop_eq_getElem_cons hj, (List.getElem?_eq_some_iff.1 h).2]
  have hl : (marksR k (rows.take j)).length = j := by rw [marksR_length]; simp; omega
  rw [take_snoc h, marksR_append, hd, List.set_append_right _ _ (by omega), hl]
  simp [marksR]
theorem marksR_at {rows : List (List Int)} {j : Nat} {r : List Int} (k : Int) (h : rows[j]? = some r) : (marksR k rows)[j]? = some (marks (k + cntR (rows.take j)) r.length) := by
  have hj : j < rows.length := (List.getElem?_eq_some_iff.1 h).1
  have hd : rows.drop j = r :: rows.drop (j + 1) := by rw [List.drop_eq_getElem_cons hj, (List.getElem?_eq_some_iff.1 h).2]
  have hl : (marksR k (rows.take j)).length = j := by rw [marksR_length]; simp; omega
  conv => lhs; rw [← List.take_append_drop j rows]
  rw [marksR_append, List.getElem?_append_right (by omega), hl, hd]
  simp [marksR]
theorem markedRest_at {rows : List (List Int)} {j : Nat} {r : List Int} (k : Int) (h : rows[j]? = some r) : (marksR k (rows.take j) ++ rows.drop j)[j]? = some r := by
  have hj : j < rows.length := (List.getElem?_eq_some_iff.1 h).1
  have hl : (marksR k (rows.take j)).length = j := by rw [marksR_length]; simp; omega
  rw [List.getElem?_append_right (by omega), hl]
  simp [h]

/-! ### tables -/
/-- The tables of a garbled or a halved circuit. -/
structure Gb where
  rows : List (List Int)
  ones : List Int
  cols : List Int
def gbV (rv ov cv : Value) : Value := .agg #[rv, ov, cv]
structure GbIn (w : World) (rv ov cv : Value) (g : Gb) : Prop where
  rows : RowsIn w rv g.rows
  ones : Ints w ov g.ones
  cols : Ints w cv g.cols
theorem GbIn.below {w w' : World} {rv ov cv : Value} {g : Gb} (h : GbIn w rv ov cv g) (hb : Below w.heap.size w w') : GbIn w' rv ov cv g := ⟨h.rows.below hb, h.ones.below hb, h.cols.below hb⟩
theorem GbIn.alloc {w : World} {rv ov cv : Value} {g : Gb} (h : GbIn w rv ov cv g) (o : Obj) : GbIn (w.alloc o) rv ov cv g := h.below ((Below.refl _ _).alloc (Nat.le_refl _) o)
/-- Tables that the call owns. -/
structure OwnGb (w : World) (B : Nat) (rv ov cv : Value) (vs : List Value) (g : Gb) : Prop where
  rows : OwnRs w B rv vs g.rows
  ones : OwnI w B ov g.ones
  cols : OwnI w B cv g.cols
  apart : (ov :: cv :: rv :: vs).Pairwise Apt
section
variable {w w' : World} {B : Nat} {rv ov cv : Value} {vs : List Value} {g : Gb} {F : List Value}
theorem OwnGb.gbIn (h : OwnGb w B rv ov cv vs g) : GbIn w rv ov cv g := ⟨h.rows.rowsIn, h.ones.ints, h.cols.ints⟩
theorem OwnGb.only (h : OwnGb w B rv ov cv vs g) (ho : Only F w w') (hF : ∀ u ∈ F, ∀ u' ∈ ov :: cv :: rv :: vs, Apt u u') : OwnGb w' B rv ov cv vs g :=
  ⟨h.rows.only ho fun u hu u' hu' => hF u hu u' (List.mem_cons_of_mem _ (List.mem_cons_of_mem _ hu')), h.ones.only ho fun u hu => hF u hu ov (by simp), h.cols.only ho fun u hu => hF u hu cv (by simp), h.apart⟩
theorem OwnGb.below (h : OwnGb w B rv ov cv vs g) (hb : Below w.heap.size w w') : OwnGb w' B rv ov cv vs g := h.only (F := []) (Only.ofBelow hb (Nat.le_refl _)) (fun u hu => by simp at hu)
theorem OwnGb.mono {B' : Nat} (h : OwnGb w B rv ov cv vs g) (hB : B' ≤ B) : OwnGb w B' rv ov cv vs g := ⟨h.rows.mono hB, h.ones.mono hB, h.cols.mono hB, h.apart⟩
theorem OwnGb.bd (h : OwnGb w B rv ov cv vs g) : ∀ u ∈ ov :: cv :: rv :: vs, ∀ b, u.ownBlock = some b → B ≤ b ∧ b < w.heap.size := by
  intro u hu b hb
  rcases List.mem_cons.1 hu with rfl | hu
  · exact ⟨h.ones.ge b hb, h.ones.lt b hb⟩
  · rcases List.mem_cons.1 hu with rfl | hu
    · exact ⟨h.cols.ge b hb, h.cols.lt b hb⟩
    · exact h.rows.bd u hu b hb
/-- Behind a change below B it is as it was. -/
theorem OwnGb.apartFrom (h : OwnGb w B rv ov cv vs g) (ho : Only F w w') (hF : ∀ u ∈ F, ∀ b, u.ownBlock = some b → b < B) : OwnGb w' B rv ov cv vs g :=
  h.only ho fun u hu u' hu' => Apt.ofLt (hF u hu) fun b hb => (h.bd u' hu' b hb).1
end
/-- The marks over tables. -/
def marksG (k : Int) (g : Gb) : Gb := ⟨marksR k g.rows, marks (k + cntR g.rows) g.ones.length, marks (k + cntR g.rows + g.ones.length) g.cols.length⟩
def Gb.cnt (g : Gb) : Nat := cntR g.rows + g.ones.length + g.cols.length
end Go.Proofs.YtejeppjmlgfiaaaGreat
