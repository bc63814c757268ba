/- The labels of wires as plain functions: the rows opened, gate by gate. Plain definitions and lemmas. -/
import Derived.Test.YtejeppjmlgfiaaaGreatInp
import Derived.Test.YtejeppjmlgfiaaaGreatTab
import Derived.Test.YtejeppjmlgfiaaaGreatHalf
namespace Go.Proofs.YtejeppjmlgfiaaaGreat
open Go.RowKit
set_option linter.unusedVariables false

def elt (l : List Int) (k : Int) : Int := l.getD k.toNat 0
theorem elt_at {l : List Int} {k : Int} (h : 0 ≤ k) (h2 : k < (l.length : Int)) : ∃ (j : Nat), k = (j : Int) ∧ j < l.length ∧ l[j]? = some (elt l k) := by
  obtain ⟨j, x, rfl, hj, hx, he⟩ := pick_at h h2
  exact ⟨j, rfl, hj, by unfold elt; rw [he]; exact hx⟩
theorem elt_bd {l : List Int} {k : Int} (hb : ∀ x ∈ l, 0 ≤ x ∧ x ≤ 65535) : 0 ≤ elt l k ∧ elt l k ≤ 65535 := by
  unfold elt
  by_cases h : k.toNat < l.length
  · have : l.getD k.toNat 0 = l[k.toNat] := by simp [List.getD, List.getElem?_eq_getElem h]
    rw [this]; exact hb _ (List.getElem_mem h)
  · have : l.getD k.toNat 0 = 0 := by simp [List.getD, List.getElem?_eq_none (Nat.le_of_not_lt h)]
    rw [this]; omega
/-- The label of a gate GtAnd by its three rows. -/
def openM (w x y : Int) (r : List Int) : Int := if 0 < 2 * (x % 2) + y % 2 then xorI (digM [w, 14, x, y]) (elt r (2 * (x % 2) + y % 2 - 1)) else digM [w, 14, x, y]
/-- The label of a gate GtAnd by its two rows. -/
def joinM (w u v : Int) (r : List Int) : Int := xorI (xorI (xorI (digM [w, 15, u, 0]) (elt r 0 * (u % 2))) (digM [w, 15, v, 1])) (xorI (elt r 1) u * (v % 2))
theorem mulbit_bd {x b : Int} (h : 0 ≤ x ∧ x ≤ 65535) : 0 ≤ x * (b % 2) ∧ x * (b % 2) ≤ 65535 := by
  have hb : b % 2 = 0 ∨ b % 2 = 1 := by omega
  rcases hb with e | e <;> rw [e] <;> omega
theorem openM_bd {w x y : Int} {r : List Int} (hr : ∀ z ∈ r, 0 ≤ z ∧ z ≤ 65535) : 0 ≤ openM w x y r ∧ openM w x y r ≤ 65535 := by
  have h1 := digM_bd [w, 14, x, y]
  unfold openM
  split
  · have h2 := elt_bd (k := 2 * (x % 2) + y % 2 - 1) hr
    exact xorI_bd h1.1 h2.1 h1.2 h2.2
  · exact h1
theorem joinM_bd {w u v : Int} {r : List Int} (hu : 0 ≤ u ∧ u ≤ 65535) (hr : ∀ z ∈ r, 0 ≤ z ∧ z ≤ 65535) : 0 ≤ joinM w u v r ∧ joinM w u v r ≤ 65535 := by
  have h1 := digM_bd [w, 15, u, 0]
  have h2 := digM_bd [w, 15, v, 1]
  have h3 := mulbit_bd (b := u) (elt_bd (k := 0) hr)
  have h4 := elt_bd (k := 1) hr
  have h5 := xorI_bd h4.1 hu.1 h4.2 hu.2
  have h6 := mulbit_bd (b := v) h5
  have h7 := xorI_bd h1.1 h3.1 h1.2 h3.2
  have h8 := xorI_bd h7.1 h2.1 h7.2 h2.2
  exact xorI_bd h8.1 h6.1 h8.2 h6.2

/-- One gate: the labels so far, the gates GtAnd and GtOne met. -/
def wireStep (F : Int → Int → Int → List Int → Int) (T : Gb) (s : List Int × Nat × Nat) (x : Gt) : List Int × Nat × Nat :=
  if x.k = 0 then (s.1 ++ [xorI (elt s.1 x.a) (elt s.1 x.b)], s.2.1, s.2.2)
  else if x.k = 2 then (s.1 ++ [elt s.1 x.a], s.2.1, s.2.2)
  else if x.k = 3 then (s.1 ++ [T.ones.getD s.2.2 0], s.2.1, s.2.2 + 1)
  else (s.1 ++ [F (s.1.length : Int) (elt s.1 x.a) (elt s.1 x.b) (T.rows.getD s.2.1 [])], s.2.1 + 1, s.2.2)
def wiresM (F : Int → Int → Int → List Int → Int) (T : Gb) (inp : List Int) (gs : List Gt) : List Int × Nat × Nat := gs.foldl (wireStep F T) (inp, 0, 0)
section
variable {F : Int → Int → Int → List Int → Int} {T : Gb} {inp : List Int} {gs : List Gt} {k : Nat} {g : Gt}
theorem wires_snoc (h : gs[k]? = some g) : wiresM F T inp (gs.take (k + 1)) = wireStep F T (wiresM F T inp (gs.take k)) g := by
  rw [take_snoc h]; simp [wiresM]
theorem cnt_take {j : Int} (h : gs[k]? = some g) : cnt j (gs.take (k + 1)) = cnt j (gs.take k) + (if g.k = j then 1 else 0) := by rw [take_snoc h, cnt_snoc]
theorem cnt_le (j : Int) (gs : List Gt) (k : Nat) : cnt j (gs.take k) ≤ cnt j gs := by
  unfold cnt
  have : (gs.take k).countP (fun g => g.k == j) ≤ gs.countP (fun g => g.k == j) := List.Sublist.countP_le (List.take_sublist k gs)
  omega
theorem cnt_lt {j : Int} (h : gs[k]? = some g) (hj : g.k = j) : cnt j (gs.take k) < cnt j gs := by
  have h1 := cnt_take (j := j) h
  rw [if_pos hj] at h1
  have h2 := cnt_le j gs (k + 1)
  omega
theorem wires_inv (hk : kindsB gs) : ∀ k, k ≤ gs.length → ((wiresM F T inp (gs.take k)).1.length = inp.length + k ∧ ((wiresM F T inp (gs.take k)).2.1 : Int) = cnt 1 (gs.take k) ∧ ((wiresM F T inp (gs.take k)).2.2 : Int) = cnt 3 (gs.take k))
  | 0, _ => by simp [wiresM, cnt]
  | k + 1, h => by
    obtain ⟨i1, i2, i3⟩ := wires_inv hk k (by omega)
    have hg : gs[k]? = some gs[k] := List.getElem?_eq_getElem (by omega)
    have hkk := hk gs[k] (List.mem_of_getElem? hg)
    rw [wires_snoc hg, cnt_take hg, cnt_take hg]
    generalize gs[k] = g at *
    generalize wiresM F T inp (gs.take k) = s at *
    unfold wireStep
    by_cases h0 : g.k = 0
    · simp [h0, i1, i2, i3]; omega
    · by_cases h2 : g.k = 2
      · simp [h2, i1, i2, i3]; omega
      · by_cases h3 : g.k = 3
        · simp [h3, i1, i2, i3]; omega
        · have h1 : g.k = 1 := by omega
          simp [h1, i1, i2, i3]; omega
/-- All labels are labels. -/
theorem wires_bd {n : Int} (hi : ∀ x ∈ inp, 0 ≤ x ∧ x ≤ 65535) (ho : ∀ x ∈ T.ones, 0 ≤ x ∧ x ≤ 65535) (hr : ∀ r ∈ T.rows, ∀ x ∈ r, 0 ≤ x ∧ x ≤ 65535)
    (hF : ∀ w x y r, 0 ≤ x ∧ x ≤ 65535 → (∀ z ∈ r, 0 ≤ z ∧ z ≤ 65535) → 0 ≤ F w x y r ∧ F w x y r ≤ 65535) : ∀ gs : List Gt, ∀ x ∈ (wiresM F T inp gs).1, 0 ≤ x ∧ x ≤ 65535 := by
  have key : ∀ (gs : List Gt) (s : List Int × Nat × Nat), (∀ x ∈ s.1, 0 ≤ x ∧ x ≤ 65535) → ∀ x ∈ (gs.foldl (wireStep F T) s).1, 0 ≤ x ∧ x ≤ 65535 := by
    intro gs
    induction gs with
    | nil => intro s hs; exact hs
    | cons g gs ih =>
      intro s hs
      refine ih _ fun x hx => ?_
      have ha := elt_bd (k := g.a) hs
      have hb := elt_bd (k := g.b) hs
      unfold wireStep at hx
      split at hx
      · rcases List.mem_append.1 hx with h | h
        · exact hs x h
        · simp at h; subst h; exact xorI_bd ha.1 hb.1 ha.2 hb.2
      · split at hx
        · rcases List.mem_append.1 hx with h | h
          · exact hs x h
          · simp at h; subst h; exact ha
        · split at hx
          · rcases List.mem_append.1 hx with h | h
            · exact hs x h
            · simp only [List.mem_singleton] at h; subst h
              by_cases hl : s.2.2 < T.ones.length
              · have : T.ones.getD s.2.2 0 = T.ones[s.2.2] := by simp [List.getD, List.getElem?_eq_getElem hl]
                rw [this]; exact ho _ (List.getElem_mem hl)
              · have : T.ones.getD s.2.2 0 = 0 := by simp [List.getD, List.getElem?_eq_none (Nat.le_of_not_lt hl)]
                rw [this]; omega
          · rcases List.mem_append.1 hx with h | h
            · exact hs x h
            · simp only [List.mem_singleton] at h; subst h
              refine hF _ _ _ _ ha ?_
              by_cases hl : s.2.1 < T.rows.length
              · have : T.rows.getD s.2.1 [] = T.rows[s.2.1] := by simp [List.getD, List.getElem?_eq_getElem hl]
                rw [this]; exact hr _ (List.getElem_mem hl)
              · have : T.rows.getD s.2.1 [] = [] := by simp [List.getD, List.getElem?_eq_none (Nat.le_of_not_lt hl)]
                rw [this]; intro z hz; simp at hz
  exact fun gs => key gs (inp, 0, 0) hi
end
theorem gatesB_at : ∀ (gs : List Gt) (own : Int) (k : Nat) (g : Gt), gatesB gs own = true → gs[k]? = some g → gateB g (own + k) = true
  | [], _, _, _, _, h => by simp at h
  | x :: gs, own, 0, g, hb, h => by
    simp at h; subst h
    simp only [gatesB, Bool.and_eq_true] at hb
    simpa using hb.1
  | x :: gs, own, k + 1, g, hb, h => by
    simp only [gatesB, Bool.and_eq_true] at hb
    have := gatesB_at gs (own + 1) k g hb.2 (by simpa using h)
    rw [show own + ((k + 1 : Nat) : Int) = own + 1 + (k : Int) by omega]; exact this
theorem gate_ab {g : Gt} {own : Int} (h : gateB g own = true) : (0 ≤ g.k ∧ g.k ≤ 3) ∧ (g.k = 0 ∨ g.k = 1 → 0 ≤ g.a ∧ g.a < own ∧ 0 ≤ g.b ∧ g.b < own) ∧ (g.k = 2 → 0 ≤ g.a ∧ g.a < own) := by
  unfold gateB at h
  by_cases h0 : g.k = 0 ∨ g.k = 1
  · rw [if_pos h0] at h
    simp only [Bool.and_eq_true] at h
    have h1 := inB_bd h.1
    have h2 := inB_bd h.2
    omega
  · rw [if_neg h0] at h
    by_cases h2 : g.k = 2
    · rw [if_pos h2] at h
      simp only [Bool.and_eq_true] at h
      have h1 := inB_bd h.1
      omega
    · rw [if_neg h2] at h
      by_cases h3 : g.k = 3
      · omega
      · rw [if_neg h3] at h; cases h
theorem belowCell {w1 : World} {p : Addr} {v : Value} (h : w1.cell? p = some v) : ∀ w', Below w1.heap.size w1 w' → w'.cell? p = some v := fun w' hb => (hb.cell (World.block_lt_of_cell? w1 _ h)).trans h
/-- What valid tables give. -/
theorem tabB_of {n : Int} {c : Cir} {g : Gb} (h : tabB n c g = true) : (g.rows.length : Int) = cnt 1 c.gs ∧ (∀ r ∈ g.rows, (r.length : Int) = n ∧ ∀ x ∈ r, 0 ≤ x ∧ x ≤ 65535) ∧ (g.ones.length : Int) = cnt 3 c.gs ∧ (∀ x ∈ g.ones, 0 ≤ x ∧ x ≤ 65535) ∧ (g.cols.length : Int) = c.outs.length ∧ allB g.cols 0 1 = true := by
  simp only [tabB, Bool.and_eq_true, decide_eq_true_eq] at h
  obtain ⟨⟨⟨⟨⟨h1, h2⟩, h3⟩, h4⟩, h5⟩, h6⟩ := h
  refine ⟨h1, fun r hr => ?_, h3, allB_bd h4, h5, h6⟩
  have := List.all_eq_true.1 h2 r hr
  simp only [rowB, Bool.and_eq_true, decide_eq_true_eq] at this
  exact ⟨this.1, allB_bd this.2⟩
end Go.Proofs.YtejeppjmlgfiaaaGreat
