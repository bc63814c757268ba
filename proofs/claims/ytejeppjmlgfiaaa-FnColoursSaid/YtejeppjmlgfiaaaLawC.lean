/- The plain laws of colours: labels of inputs stand for their values, and colours hide and show bits. Conditions: those that each names. -/
import Derived.Test.YtejeppjmlgfiaaaInpL
import Derived.Test.YtejeppjmlgfiaaaLabX
import Derived.Test.YtejeppjmlgfiaaaLabG
import Derived.Test.YtejeppjmlgfiaaaColF
namespace Go.Proofs.Ytejeppjmlgfiaaa
open Go.RowKit
set_option linter.unusedVariables false
theorem input_law {c : Cir} {key r : Int} {a b l : List Int} (h : inputM c key r a b = some l) : l.length = (a ++ b).length ∧ (a ++ b).length ≤ 40 ∧
    ∀ (k : Nat) (x y : Int), (a ++ b)[k]? = some x → l[k]? = some y → (x = 0 ∨ x = 1) ∧ zeroM key (k : Int) = some (digM [key, (k : Int), 13, 0]) ∧ bitM (digM [key, (k : Int), 13, 0]) r y = some x := by
  unfold inputM at h
  split at h
  · rename_i hc
    injection h with h
    subst h
    simp only [Bool.and_eq_true] at hc
    obtain ⟨h1, h2, h3, h4, h5⟩ := askedB_of hc.1.1
    have hb := cirB_bd h1
    have hr := offB_bd hc.2
    have hlen : (a ++ b).length ≤ 40 := by simp; omega
    refine ⟨lbInM_length _ _ _, hlen, fun k x y hx hy => ?_⟩
    have hk : k < (a ++ b).length := (List.getElem?_eq_some_iff.1 hx).1
    have hx01 : x = 0 ∨ x = 1 := by
      rcases List.mem_append.1 (List.mem_of_getElem? hx) with hm | hm
      · exact bit_cases h2 hm
      · exact bit_cases h3 hm
    have hz := digM_bd [key, (k : Int), 13, 0]
    have hyv : y = xorI (digM [key, (k : Int), 13, 0]) (r * x) := by
      unfold lbInM at hy
      rw [List.getElem?_mapIdx, hx] at hy
      simp at hy; exact hy.symm
    refine ⟨hx01, ?_, ?_⟩
    · unfold zeroM; rw [hc.1.2, inB_mk (by omega) (by omega)]; rfl
    · rw [hyv]; exact lab_bit hz hr hx01
  · cases h
theorem input_len (c : Cir) (key r : Int) (a b : List Int) : ((inputM c key r a b).getD []).length ≤ 40 := by
  rcases h : inputM c key r a b with _ | l
  · simp
  · have := input_law h; simp; omega
theorem xors_back : ∀ (z c : List Int), c.length = z.length → (∀ x ∈ z, 0 ≤ x) → (∀ x ∈ c, 0 ≤ x) → xorsM z (xorsM z c) = c
  | [], [], _, _, _ => rfl
  | [], _ :: _, h, _, _ => by simp at h
  | _ :: _, [], h, _, _ => by simp at h
  | x :: z, y :: c, h, hz, hc => by
    have ih := xors_back z c (by simpa using h) (fun q hq => hz q (by simp [hq])) (fun q hq => hc q (by simp [hq]))
    unfold xorsM at ih ⊢
    simp only [List.zipWith_cons_cons, ih, xorI_left (hc y (by simp))]
theorem hidden_law {z c l : List Int} (h : hiddenM z c = some l) : hiddenM z l = some c ∧ l.length ≤ 400 ∧ z.length ≤ 400 ∧ c.length ≤ 400 := by
  unfold hiddenM at h
  split at h
  · rename_i hc
    injection h with h
    simp only [Bool.and_eq_true, decide_eq_true_eq] at hc
    obtain ⟨⟨h1, h2⟩, h3⟩ := hc
    have hz : z.length ≤ 400 := by simp only [labsB, Bool.and_eq_true, decide_eq_true_eq] at h1; exact h1.2
    have hcl : (coloursM z).length = z.length := by simp [coloursM]
    have hll : l.length = z.length := by rw [← h]; simp [xorsM, hcl, h2]
    have hb3 := allB_bd h3
    have hlb : allB l 0 1 = true := by
      refine List.all_eq_true.2 fun x hx => ?_
      rw [← h] at hx
      unfold xorsM at hx
      obtain ⟨i, hi, rfl⟩ := List.getElem_of_mem hx
      rw [List.getElem_zipWith]
      have e1 := coloursM_bd z _ (List.getElem_mem (l := coloursM z) (n := i) (by simp at hi; omega))
      have e2 := hb3 _ (List.getElem_mem (l := c) (n := i) (by simp at hi; omega))
      generalize (coloursM z)[i]'_ = p at *
      generalize c[i]'_ = q at *
      have hp : p = 0 ∨ p = 1 := by omega
      have hq : q = 0 ∨ q = 1 := by omega
      rcases hp with rfl | rfl <;> rcases hq with rfl | rfl <;> decide
    refine ⟨?_, by omega, hz, by omega⟩
    unfold hiddenM
    rw [h1, decide_eq_true hll, hlb]
    simp only [Bool.and_self, if_true]
    rw [← h, xors_back _ _ (by omega) (fun x hx => (coloursM_bd z x hx).1) (fun x hx => (hb3 x hx).1)]
  · cases h
theorem hidden_len (z c : List Int) : ((hiddenM z c).getD []).length ≤ 400 := by
  rcases h : hiddenM z c with _ | l
  · simp
  · have := hidden_law h; simp; omega
theorem colours_len (l : List Int) : ((coloursOfM l).getD []).length ≤ 400 := by
  unfold coloursOfM
  split
  · rename_i h
    simp only [labsB, Bool.and_eq_true, decide_eq_true_eq] at h
    simp [coloursM]; omega
  · simp
end Go.Proofs.Ytejeppjmlgfiaaa
