/- The plain laws of holders: enough shares join to the value, weights add it up, fewer shares allow each value once. Conditions: those that each names. -/
import Derived.Test.YtmccfdaaneemfaaThrG
import Derived.Test.YtmccfdaaneemfaaRefB
import Derived.Test.YtmccfdaaneemfaaHol
namespace Go.Proofs.Ytmccfdaaneemfaa
open Go.RowKit
set_option linter.unusedVariables false
section
variable {p : Int}
theorem splitN_map (p : Int) (cs : List Int) (n : Nat) : splitN p cs n = (rngN n).map (evalM p cs) := by
  unfold splitN rngN; rw [List.map_map]; rfl
theorem rngN_mem {n : Nat} {x : Int} (h : x ∈ rngN n) : 1 ≤ x ∧ x ≤ n := by
  obtain ⟨i, hi, rfl⟩ := List.mem_map.1 h
  have := List.mem_range.1 hi; omega
theorem rngN_nodup (n : Nat) : (rngN n).Nodup := by
  unfold rngN
  refine List.Pairwise.map _ ?_ List.nodup_range
  intro a b h e; exact h (by omega)
theorem hold_sub {n : Nat} (hf : fldB p = true) (hn : n ≤ 10) (hnp : (n : Int) < p) {xs : List Int} (hs : xs.Sublist (rngN n)) (cs : List Int) : holdB p xs (xs.map (evalM p cs)) = true := by
  have hp := fldB_bd hf
  have hm : ∀ x ∈ xs, 1 ≤ x ∧ x ≤ n := fun x hx => rngN_mem (hs.subset hx)
  have hl : xs.length ≤ n := by have := hs.length_le; rw [rngN_length] at this; exact this
  have hpt : ptsB p xs (xs.map (evalM p cs)) = true := ptsB_mk hf (fun x hx => by have := hm x hx; omega) (fun y hy => by
    obtain ⟨x, -, rfl⟩ := List.mem_map.1 hy
    exact evalM_bd (by omega) _ _) (by omega) (by simp) ((rngN_nodup n).sublist hs)
  unfold holdB
  rw [hpt, decide_eq_true (by omega), decide_eq_false (fun h => by have := hm 0 h; omega)]; rfl
theorem map_at {xs cs : List Int} {i : Nat} {x y : Int} (hx : xs[i]? = some x) (hy : (xs.map (evalM p cs))[i]? = some y) : Cg p (pe cs x) y := by
  rw [List.getElem?_map, hx] at hy
  injection hy with hy
  rw [← hy]
  exact (evalM_cg p cs x).symm
theorem at_sub {n : Nat} (hf : fldB p = true) (hn : n ≤ 10) (hnp : (n : Int) < p) {xs : List Int} (hs : xs.Sublist (rngN n)) {cs : List Int} (hc : cs.length ≤ xs.length) (x : Int) : Cg p (atM p xs (xs.map (evalM p cs)) x) (pe cs x) := by
  obtain ⟨hpr, hp, hxb, hyb, -, hll, hnd⟩ := ptsB_of (holdB_of (hold_sub hf hn hnp hs cs)).1
  have h := fits_at hpr (dis_of hnd hxb) hll (Nat.le_refl _) hc (fun i x y hx hy => map_at hx hy) x
  rwa [List.take_of_length_le (Nat.le_refl _), List.take_of_length_le (by omega)] at h
theorem pe_head (v : Int) (l : List Int) : pe (v :: l) 0 = v := by simp [pe]
theorem join_sub {n : Nat} (hf : fldB p = true) (hn : n ≤ 10) (hnp : (n : Int) < p) {xs : List Int} (hs : xs.Sublist (rngN n)) {v : Int} (hv : 0 ≤ v ∧ v < p) {l : List Int} (hc : l.length + 1 ≤ xs.length) : joinTM p xs (xs.map (evalM p (v :: l))) = some v := by
  have h := at_sub hf hn hnp hs (cs := v :: l) (by simpa using hc) 0
  rw [pe_head] at h
  have hp := fldB_bd hf
  have e := h.eqOf (atM_bd (by omega) _ _ _) hv
  unfold joinTM
  have hz : ((xs.length : Int) == 0) = false := by simp; rintro rfl; simp at hc
  rw [hold_sub hf hn hnp hs, hz, e]; rfl
theorem fit_sub {n : Nat} (hf : fldB p = true) (hn : n ≤ 10) (hnp : (n : Int) < p) {xs : List Int} (hs : xs.Sublist (rngN n)) {cs : List Int} {t : Nat} (hc : cs.length ≤ t) : fitS p xs (xs.map (evalM p cs)) t = true := by
  obtain ⟨hpr, hp, hxb, hyb, -, hll, hnd⟩ := ptsB_of (holdB_of (hold_sub hf hn hnp hs cs)).1
  exact (fitS_iff hpr (dis_of hnd hxb) hll hyb t).2 ⟨cs, hc, fun i x y hx hy => map_at hx hy⟩
theorem count_sub {n : Nat} (hf : fldB p = true) (hn : n ≤ 10) (hnp : (n : Int) < p) {xs : List Int} (hs : xs.Sublist (rngN n)) (cs : List Int) {t : Nat} (ht : xs.length + 1 = t) (ht2 : t ≤ 10) {v : Int} (hv : 0 ≤ v ∧ v < p) :
    countM p xs (xs.map (evalM p cs)) (t : Int) v = if decide (p ^ t ≤ 100000000) then some 1 else none := by
  have hh := hold_sub hf hn hnp hs cs
  obtain ⟨h1, h2, h3⟩ := holdB_of hh
  obtain ⟨hpr, hp, hxb, hyb, -, hll, hnd⟩ := ptsB_of h1
  have hfit : fitS p (0 :: xs) (v :: xs.map (evalM p cs)) t = true := by
    refine (fitS_iff hpr (dis_of (List.nodup_cons.2 ⟨h3, hnd⟩) ?_) (by simp) ?_ t).2 (fits_few hpr (dis_of (List.nodup_cons.2 ⟨h3, hnd⟩) ?_) (by simp) (by simp; omega))
    · intro x hx; rcases List.mem_cons.1 hx with rfl | h
      · omega
      · exact hxb x h
    · intro x hx; rcases List.mem_cons.1 hx with rfl | h
      · exact hv
      · exact hyb x h
    · intro x hx; rcases List.mem_cons.1 hx with rfl | h
      · omega
      · exact hxb x h
  have hc : cntB p xs (xs.map (evalM p cs)) (t : Int) v = true := by
    unfold cntB; rw [hh, inB_mk (by omega) (by omega), inB_mk (by omega) (by omega)]; rfl
  unfold countM
  rw [hc, Int.toNat_natCast, hfit, Bool.true_and, if_neg (show ¬ xs.length + 1 < t by omega), if_pos rfl]
theorem thr_law {key v n t : Int} {W : List Int} (h : splitOM p key v n t = some W) : ∃ N T : Nat, n = (N : Int) ∧ t = (T : Int) ∧ 1 ≤ T ∧ T ≤ N ∧ N ≤ 10 ∧ (2 ≤ p ∧ p ≤ 251) ∧ (0 ≤ v ∧ v < p) ∧ W.length = N ∧
    joinTM p ((rngN N).take T) (W.take T) = some v ∧ joinTM p ((rngN N).drop (N - T)) (W.drop (N - T)) = some v ∧ areShM p (rngN N) W (T : Int) = some true ∧
    ∃ o : Option Int, (o = some 1 ∨ o = none) ∧ countM p ((rngN N).take (T - 1)) (W.take (T - 1)) (T : Int) v = o ∧ countM p ((rngN N).take (T - 1)) (W.take (T - 1)) (T : Int) 0 = o := by
  unfold splitOM at h
  split at h
  · rename_i hc
    simp only [Bool.and_eq_true] at hc
    obtain ⟨⟨⟨h1, h2⟩, h3⟩, h4⟩ := hc
    have hf := elemB_fld h1
    have hv : 0 ≤ v ∧ v < p := by simp only [elemB, Bool.and_eq_true] at h1; have := inB_bd h1.2; omega
    have hp := fldB_bd hf
    have b3 := inB_bd h3
    have b4 := inB_bd h4
    obtain ⟨N, rfl⟩ := nat_of (show 0 ≤ n by omega)
    obtain ⟨T, rfl⟩ := nat_of (show 0 ≤ t by omega)
    injection h with h
    simp only [Int.toNat_natCast] at h
    have hn10 : N ≤ 10 := by omega
    have hnp : (N : Int) < p := by omega
    subst h
    have hl := rngN_length N
    obtain ⟨cs, hcs⟩ : ∃ cs, coefN p key v (T - 1) = v :: cs := ⟨_, rfl⟩
    have hcl : cs.length + 1 = T := by have := coefN_length p key v (T - 1); rw [hcs] at this; simp at this; omega
    have st := List.take_sublist T (rngN N)
    have sd := List.drop_sublist (N - T) (rngN N)
    have s1 := List.take_sublist (T - 1) (rngN N)
    refine ⟨N, T, rfl, rfl, by omega, by omega, hn10, hp, hv, by rw [splitN_length], ?_⟩
    rw [hcs, splitN_map, ← List.map_take, ← List.map_drop, ← List.map_take]
    refine ⟨join_sub hf hn10 hnp st hv (by simp [hl]; omega), join_sub hf hn10 hnp sd hv (by simp [hl]; omega), ?_, ?_⟩
    · unfold areShM askB
      rw [hold_sub hf hn10 hnp (List.Sublist.refl _), hl, inB_mk (by omega) (by omega), Int.toNat_natCast, fit_sub hf hn10 hnp (List.Sublist.refl _) (by simp; omega)]; rfl
    · refine ⟨if decide (p ^ T ≤ 100000000) then some 1 else none, by split <;> simp, count_sub hf hn10 hnp s1 _ (by simp [hl]; omega) (by omega) hv, count_sub hf hn10 hnp s1 _ (by simp [hl]; omega) (by omega) (by omega)⟩
  · cases h
/-! ### sums by weights -/
/-- The sum of the first k products. -/
noncomputable def wsN (ws ys : List Int) (k : Nat) : Int := (List.range k).foldl (fun s i => s + ws.getD i 0 * ys.getD i 0) 0
theorem wsN_succ (ws ys : List Int) (k : Nat) : wsN ws ys (k + 1) = wsN ws ys k + ws.getD k 0 * ys.getD k 0 := by simp [wsN, List.range_succ]
theorem wsN_bd {ws ys : List Int} (hw : ∀ x ∈ ws, 0 ≤ x ∧ x ≤ 300) (hy : ∀ x ∈ ys, 0 ≤ x ∧ x ≤ 300) : ∀ k, 0 ≤ wsN ws ys k ∧ wsN ws ys k ≤ 90000 * k
  | 0 => by simp [wsN]
  | k + 1 => by
    have ih := wsN_bd hw hy k
    have g : ∀ l : List Int, (∀ x ∈ l, 0 ≤ x ∧ x ≤ 300) → 0 ≤ l.getD k 0 ∧ l.getD k 0 ≤ 300 := fun l hl => by
      by_cases hk : k < l.length
      · exact hl _ (List.mem_of_getElem? (getD_of hk))
      · simp [List.getD, List.getElem?_eq_none (Nat.le_of_not_lt hk)]
    have a := g ws hw
    have b := g ys hy
    have m0 := Int.mul_nonneg a.1 b.1
    have m1 := Int.mul_le_mul a.2 b.2 b.1 (by omega)
    rw [wsN_succ]; omega
theorem weights_at {n : Nat} {xs : List Int} {k : Nat} (hk : k < n) : (weightsM p xs n).getD k 0 = weightM p (xs.getD k 0) 0 (xs.eraseIdx k) := by
  simp [weightsM, List.getD, List.getElem?_map, List.getElem?_range hk]
theorem ws_cg {xs ys : List Int} : ∀ k, k ≤ xs.length → Cg p (wsN (weightsM p xs xs.length) ys k) ((List.range k).foldl (fun s i => (s + ys.getD i 0 * weightM p (xs.getD i 0) 0 (xs.eraseIdx i)) % p) 0)
  | 0, _ => Cg.refl _ _
  | k + 1, h => by
    rw [wsN_succ, List.range_succ, List.foldl_append, List.foldl_cons, List.foldl_nil, weights_at (by omega)]
    exact ((ws_cg k (by omega)).add (Cg.of (Int.mul_comm _ _))).trans (Cg.mod _ _).symm
theorem join_law {xs ys : List Int} {j : Int} (h : joinTM p xs ys = some j) : weightsOM p xs = some (weightsM p xs xs.length) ∧ (weightsM p xs xs.length).length = ys.length ∧ ys.length ≤ 10 ∧ (2 ≤ p ∧ p ≤ 251) ∧ (∀ x ∈ weightsM p xs xs.length, 0 ≤ x ∧ x ≤ 300) ∧ (∀ y ∈ ys, 0 ≤ y ∧ y ≤ 300) ∧
    wsN (weightsM p xs xs.length) ys ys.length % p = j ∧ shareM p xs ys 0 = some j := by
  unfold joinTM at h
  split at h
  · rename_i hc
    simp only [Bool.and_eq_true] at hc
    injection h with h
    subst h
    obtain ⟨h1, h2, h3⟩ := holdB_of hc.1
    obtain ⟨hpr, hp, hxb, hyb, hlen, hll, hnd⟩ := ptsB_of h1
    have hf := ptsB_fld h1
    have hz : holdB p xs (List.replicate xs.length 0) = true := by
      have : ptsB p xs (List.replicate xs.length 0) = true := ptsB_mk hf hxb (fun y hy => by rw [(List.mem_replicate.1 hy).2]; omega) hlen (by simp) hnd
      unfold holdB; rw [this, decide_eq_true (by omega), decide_eq_false h3]; rfl
    refine ⟨by unfold weightsOM; rw [hz]; rfl, by rw [weightsM_length]; exact hll, by omega, hp, ?_, fun y hy => by have := hyb y hy; omega, ?_, ?_⟩
    · intro x hx
      obtain ⟨i, -, rfl⟩ := List.mem_map.1 hx
      have := weightM_bd (p := p) (by omega) (xs.getD i 0) 0 (xs.eraseIdx i)
      omega
    · have e := (ws_cg (p := p) (xs := xs) (ys := ys) xs.length (Nat.le_refl _)).eq
      rw [← hll, e, hll]
      exact Int.emod_eq_of_lt (atM_bd (by omega) xs ys 0).1 (atM_bd (by omega) xs ys 0).2
    · unfold shareM; rw [hc.1, inB_mk (by omega) (by omega)]; rfl
  · cases h
end
end Go.Proofs.Ytmccfdaaneemfaa
