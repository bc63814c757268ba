/- Plain facts on numbers put into a rising list, and on numbers that are all different. No program. -/
namespace Go.Proofs.Ytjijghfagaigbaa
set_option linter.unusedVariables false

def putR : List Int → Int → List Int
  | [], n => [n]
  | a :: l, n => if a < n then a :: putR l n else if a = n then a :: l else n :: a :: l
/-- The result by the place that the search has found. -/
def putK (l : List Int) (n : Int) (k : Nat) : List Int := if l[k]? = some n then l else l.take k ++ n :: l.drop k
theorem putK_eq : ∀ (l : List Int) (n : Int) (k : Nat), k ≤ l.length → (∀ j x, j < k → l[j]? = some x → x < n) → (∀ x, l[k]? = some x → ¬ x < n) → putK l n k = putR l n
  | [], n, k, hk, _, _ => by
    have : k = 0 := by simpa using hk
    subst this; simp [putK, putR]
  | a :: l, n, 0, _, _, h2 => by
    have h3 := h2 a (by simp)
    simp only [putK, putR, if_neg h3, List.getElem?_cons_zero, Option.some.injEq, List.take_zero, List.nil_append, List.drop_zero]
  | a :: l, n, k + 1, hk, h1, h2 => by
    have h3 := h1 0 a (by omega) (by simp)
    have ih := putK_eq l n k (by simpa using hk) (fun j x hj hx => h1 (j + 1) x (by omega) (by simpa using hx)) (fun x hx => h2 x (by simpa using hx))
    simp only [putK, putR, if_pos h3, List.getElem?_cons_succ, List.take_succ_cons, List.drop_succ_cons, List.cons_append] at ih ⊢
    split
    · rename_i h; rw [if_pos h] at ih; rw [← ih]
    · rename_i h; rw [if_neg h] at ih; rw [← ih]
theorem putR_mem : ∀ (l : List Int) (n x : Int), x ∈ putR l n ↔ x ∈ l ∨ x = n
  | [], n, x => by simp [putR]
  | a :: l, n, x => by
    have ih := putR_mem l n x
    unfold putR
    split
    · simp [ih, or_assoc]
    · split
      · rename_i h; subst h; simp only [List.mem_cons]; grind
      · simp only [List.mem_cons]; grind
def Rise (l : List Int) : Prop := l.Pairwise (· < ·)
theorem putR_rise : ∀ (l : List Int) (n : Int), Rise l → Rise (putR l n)
  | [], n, _ => by simp [putR, Rise]
  | a :: l, n, h => by
    have h' := List.pairwise_cons.1 h
    have ih := putR_rise l n h'.2
    unfold putR
    split
    · refine List.pairwise_cons.2 ⟨fun x hx => ?_, ih⟩
      rcases (putR_mem l n x).1 hx with h1 | rfl
      · exact h'.1 x h1
      · assumption
    · split
      · exact h
      · refine List.pairwise_cons.2 ⟨fun x hx => ?_, h⟩
        rcases List.mem_cons.1 hx with rfl | h1
        · omega
        · have := h'.1 x h1; omega
theorem putR_length : ∀ (l : List Int) (n : Int), Rise l → (putR l n).length = if n ∈ l then l.length else l.length + 1
  | [], n, _ => by simp [putR]
  | a :: l, n, h => by
    have h' := List.pairwise_cons.1 h
    have ih := putR_length l n h'.2
    unfold putR
    split
    · rename_i hlt
      have hne : ¬ n = a := by omega
      simp only [List.length_cons, ih, List.mem_cons, hne, false_or]
      split <;> omega
    · split
      · rename_i h1 h2; subst h2; simp
      · rename_i h1 h2
        have hn : n ∉ a :: l := by
          intro hm
          rcases List.mem_cons.1 hm with rfl | hm
          · exact h2 rfl
          · have := h'.1 n hm; omega
        rw [if_neg hn]; simp
def metM (xs : List Int) : List Int := xs.foldl putR []
theorem metM_inv (xs : List Int) : Rise (metM xs) ∧ (∀ x, x ∈ metM xs ↔ x ∈ xs) ∧ (metM xs).length ≤ xs.length ∧ ((metM xs).length = xs.length ↔ xs.Nodup) := by
  have key : ∀ (xs done l : List Int), (Rise l ∧ (∀ x, x ∈ l ↔ x ∈ done) ∧ l.length ≤ done.length ∧ (l.length = done.length ↔ done.Nodup)) →
      (Rise (xs.foldl putR l) ∧ (∀ x, x ∈ xs.foldl putR l ↔ x ∈ done ++ xs) ∧ (xs.foldl putR l).length ≤ (done ++ xs).length ∧ ((xs.foldl putR l).length = (done ++ xs).length ↔ (done ++ xs).Nodup)) := by
    intro xs
    induction xs with
    | nil => intro done l h; simpa using h
    | cons n xs ih =>
      intro done l ⟨h1, h2, h3, h4⟩
      rw [List.foldl_cons, show done ++ n :: xs = (done ++ [n]) ++ xs by simp]
      refine ih (done ++ [n]) (putR l n) ⟨putR_rise l n h1, fun x => ?_, ?_, ?_⟩
      · rw [putR_mem, h2]; simp
      · rw [putR_length l n h1]; split <;> simp <;> omega
      · rw [putR_length l n h1, List.nodup_append]
        by_cases hn : n ∈ l
        · rw [if_pos hn]
          have hd := (h2 n).1 hn
          constructor
          · intro e; simp at e; omega
          · intro e; exact absurd rfl (e.2.2 n hd n (by simp))
        · rw [if_neg hn]
          have hd : n ∉ done := fun h => hn ((h2 n).2 h)
          simp only [List.length_append, List.length_singleton, Nat.add_right_cancel_iff, h4]
          constructor
          · intro e; exact ⟨e, by simp, fun a ha b hb e2 => by simp at hb; subst hb; exact hd (e2 ▸ ha)⟩
          · intro e; exact e.1
  have := key xs [] [] ⟨List.Pairwise.nil, by simp, by simp, by simp⟩
  simpa [metM] using this
theorem nodup_snoc {l : List Int} {x : Int} : (l ++ [x]).Nodup ↔ l.Nodup ∧ x ∉ l := by
  rw [List.nodup_append]
  constructor
  · intro h; exact ⟨h.1, fun hx => h.2.2 x hx x (by simp) rfl⟩
  · intro h; exact ⟨h.1, by simp, fun a ha b hb e => by simp at hb; subst hb; exact h.2 (e ▸ ha)⟩
end Go.Proofs.Ytjijghfagaigbaa
