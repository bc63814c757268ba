/- Plain facts: the powers of a generator, sorted, are the elements of the group in their order. No program. -/
import Derived.Test.YtpeoiemcfpghkaaGrpM
import Derived.Test.YtpeoiemcfpghkaaFermat
namespace Go.Proofs.Ytpeoiemcfpghkaa
set_option linter.unusedVariables false

def powsL (P Q G : Int) : List Int := (List.range Q.toNat).map fun (i : Nat) => G ^ i % P
def elemsN (P Q : Int) (n : Nat) : List Int := ((List.range n).map fun (i : Nat) => (i : Int) + 1).filter fun a => a ^ Q.toNat % P == 1
theorem elemsN_snoc (P Q : Int) (n : Nat) : elemsN P Q (n + 1) = elemsN P Q n ++ (if (((n : Int) + 1) ^ Q.toNat % P == 1) = true then [(n : Int) + 1] else []) := by
  unfold elemsN
  rw [List.range_succ, List.map_append, List.filter_append]
  congr 1
  rcases h : (((n : Int) + 1) ^ Q.toNat % P == 1) with _ | _
  · rw [List.map_cons, List.map_nil, List.filter_cons, h]; simp
  · rw [List.map_cons, List.map_nil, List.filter_cons, h]; simp
theorem elemsN_length (P Q : Int) (n : Nat) : (elemsN P Q n).length ≤ n := by
  unfold elemsN
  exact Nat.le_trans (List.length_filter_le _ _) (by simp)
theorem powsL_length (P Q G : Int) : (powsL P Q G).length = Q.toNat := by simp [powsL]
theorem elems_sort {P Q G : Int} (hP : PrimeP P) (hQ : PrimeP Q) (hG : 2 ≤ G ∧ G ≤ P - 1) (h : G ^ Q.toNat % P = 1) : (powsL P Q G).mergeSort (fun x y => decide (x ≤ y)) = elemsN P Q (P - 1).toNat := by
  have hP2 := hP.1
  have hQ2 := hQ.1
  have h1 : ¬ G % P = 1 := by rw [Int.emod_eq_of_lt (by omega) (by omega)]; omega
  have hd : ¬ P ∣ G := not_dvd_small (by omega) hG.2
  have hn : (powsL P Q G).Nodup := by
    unfold powsL List.Nodup
    refine List.pairwise_map.2 (List.Pairwise.imp_of_mem ?_ (List.pairwise_lt_range (n := Q.toNat)))
    intro i j hi hj hij e
    have hj' := List.mem_range.1 hj
    exact pow_distinct hP hQ hd h1 h hij hj' (Int.dvd_of_emod_eq_zero (Int.emod_eq_emod_iff_emod_sub_eq_zero.1 e.symm))
  have hlt : (elemsN P Q (P - 1).toNat).Pairwise (· < ·) := by
    unfold elemsN
    exact List.Pairwise.filter _ (List.pairwise_map.2 ((List.pairwise_lt_range (n := (P - 1).toNat)).imp fun {a b} h => by omega))
  have hm : ∀ x, x ∈ powsL P Q G ↔ x ∈ elemsN P Q (P - 1).toNat := by
    intro x
    unfold powsL elemsN
    rw [List.mem_map, List.mem_filter]
    constructor
    · rintro ⟨i, hi, rfl⟩
      have b0 : 0 ≤ G ^ i % P := Int.emod_nonneg _ (by omega)
      have b1 : G ^ i % P < P := Int.emod_lt_of_pos _ (by omega)
      have b2 : ¬ G ^ i % P = 0 := fun e => not_dvd_pow hP hd i (Int.dvd_of_emod_eq_zero e)
      refine ⟨List.mem_map.2 ⟨(G ^ i % P).toNat - 1, List.mem_range.2 (by omega), by omega⟩, ?_⟩
      rw [beq_iff_eq, pow_emod]; exact pow_root (by omega) h i
    · rintro ⟨hx, hr⟩
      obtain ⟨k, hk, rfl⟩ := List.mem_map.1 hx
      have hk' := List.mem_range.1 hk
      obtain ⟨i, hi, he⟩ := log_exists hP hQ h1 h (b := (k : Int) + 1) (by omega) (by omega) (beq_iff_eq.1 hr)
      exact ⟨i, List.mem_range.2 hi, he⟩
  have hp : ((powsL P Q G).mergeSort (fun x y => decide (x ≤ y))).Perm (elemsN P Q (P - 1).toNat) :=
    (List.mergeSort_perm _ _).trans ((List.perm_ext_iff_of_nodup hn (hlt.imp fun {a b} h => by omega)).2 hm)
  refine List.Perm.eq_of_pairwise (le := fun x y => x ≤ y) (fun a b _ _ h1 h2 => Int.le_antisymm h1 h2) ?_ (hlt.imp fun {a b} h => by omega) hp
  refine (List.pairwise_mergeSort (le := fun x y => decide (x ≤ y)) (fun a b c h1 h2 => ?_) (fun a b => ?_) (powsL P Q G)).imp fun {a b} h => of_decide_eq_true h
  · have := of_decide_eq_true h1; have := of_decide_eq_true h2; exact decide_eq_true (by omega)
  · by_cases h : a ≤ b
    · simp [h]
    · have : b ≤ a := by omega
      simp [this]
end Go.Proofs.Ytpeoiemcfpghkaa
