/- The plain laws of hiding: how often each share occurs, what shifted shares add up to. No condition. -/
import Derived.Test.YtmccfdaaneemfaaHidD
namespace Go.Proofs.Ytmccfdaaneemfaa
open Go.RowKit
set_option linter.unusedVariables false

theorem count_law (p v t : Int) : (∀ x ∈ (countM p v t).getD [], x = 1) ∧ ((countM p v t).getD []).length ≤ 300 ∧ ∀ l, countM p v t = some l → ∃ P : Nat, p = (P : Int) ∧ pairsM p v = some (pairsN p v P) ∧ 2 ≤ P ∧ P ≤ 251 ∧ 0 ≤ v ∧ v < (P : Int) := by
  unfold countM
  rcases he : elemB p v && inB t 0 1 with _ | _
  · exact ⟨fun x hx => by simp at hx, by simp, fun l h => by simp at h⟩
  · simp only [Bool.and_eq_true] at he
    have hb := elemB_bd he.1
    refine ⟨fun x hx => by simp only [if_true, Option.getD_some] at hx; exact List.eq_of_mem_replicate hx, by simp; omega, fun l _ => ⟨p.toNat, by omega, ?_, by omega, by omega, hb.2.2.1, by omega⟩⟩
    unfold pairsM; rw [he.1]; rfl
theorem pair_sum {p v x : Int} (hp : 0 < p) (hv : 0 ≤ v ∧ v < p) : (x + (v - x) % p) % p = v := by
  rw [Int.add_emod_emod, Int.add_comm, Int.sub_add_cancel]
  exact Int.emod_eq_of_lt hv.1 hv.2
theorem shift_sum {q x s : Int} (hs : 0 ≤ s ∧ s < q) : (((x + s * (1 - 0)) % q + (x + s * (1 - 1)) % q) % q - (x + x) % q) % q = s := by
  rw [← Int.add_emod, ← Int.sub_emod, show x + s * (1 - 0) + (x + s * (1 - 1)) - (x + x) = s by simp; omega]
  exact Int.emod_eq_of_lt hs.1 hs.2
theorem shift_law {q t s : Int} {a x : List Int} (h : shifM q t a s = some x) : ∃ X0 X1 B A, shifM q 0 a s = some X0 ∧ shifM q 1 a s = some X1 ∧ addOM q a a = some B ∧ addOM q X0 X1 = some A ∧
    A.length = B.length ∧ B.length ≤ 40 ∧ a.length ≤ 40 ∧ X0.length ≤ 40 ∧ X1.length ≤ 40 ∧ (2 ≤ q ∧ q ≤ 251) ∧ (∀ z ∈ A, 0 ≤ z ∧ z < q) ∧ (∀ z ∈ B, 0 ≤ z ∧ z < q) ∧ ∀ (i : Nat) (b c : Int), B[i]? = some b → A[i]? = some c → (c - b) % q = s := by
  unfold shifM at h
  split at h
  case isFalse => cases h
  case isTrue hc =>
    simp only [Bool.and_eq_true] at hc
    have hs := shB_of hc.1.1
    have hpb := fldB_bd hs.1
    have hsb := inB_bd hc.1.2
    have l0 := combN_length (fun x y => x + s * (1 - 0)) q a a rfl
    have l1 := combN_length (fun x y => x + s * (1 - 1)) q a a rfl
    have s0 := shB_mk hs.1 (combN_bd (p := q) (by omega) (fun x y => x + s * (1 - 0)) a a) (by rw [l0]; exact hs.2.2)
    have s1 := shB_mk hs.1 (combN_bd (p := q) (by omega) (fun x y => x + s * (1 - 1)) a a) (by rw [l1]; exact hs.2.2)
    have la := add_length (p := q) (a := a) (b := a) rfl
    have lA := add_length (p := q) (a := combN (fun x y => x + s * (1 - 0)) q a a) (b := combN (fun x y => x + s * (1 - 1)) q a a) (by omega)
    refine ⟨combN (fun x y => x + s * (1 - 0)) q a a, combN (fun x y => x + s * (1 - 1)) q a a, addM q a a, addM q (combN (fun x y => x + s * (1 - 0)) q a a) (combN (fun x y => x + s * (1 - 1)) q a a), ?_, ?_, addOM_some hc.1.1 hc.1.1 rfl, addOM_some s0 s1 (by omega), by omega, by omega, hs.2.2, by omega, by omega, hpb, add_bd (by omega) _ _, add_bd (by omega) _ _, ?_⟩
    · unfold shifM; rw [hc.1.1, hc.1.2]; rfl
    · unfold shifM; rw [hc.1.1, hc.1.2]; rfl
    · intro i b c hb hcc
      obtain ⟨hi, hb⟩ := List.getElem?_eq_some_iff.1 hb
      obtain ⟨hi2, hcc⟩ := List.getElem?_eq_some_iff.1 hcc
      simp only [addM, combN, List.getElem_zipWith] at hb hcc
      rw [← hb, ← hcc]
      exact shift_sum ⟨hsb.1, by omega⟩
theorem shif_len (q t s : Int) (a : List Int) : ((shifM q t a s).getD []).length ≤ a.length := by
  unfold shifM; split
  · simp [combN]
  · simp
theorem scal_len (q s : Int) (a : List Int) : ((scalM q a s).getD []).length ≤ a.length := by
  unfold scalM; split
  · simp [combN]
  · simp
end Go.Proofs.Ytmccfdaaneemfaa
