/- The plain laws of runs: what is decoded are the values in clear, and each label is the one that stands for its value. Conditions: those that each names. -/
import Derived.Test.YtejeppjmlgfiaaaGreatHa41
import Derived.Test.YtejeppjmlgfiaaaGreatHa37
import Derived.Test.YtejeppjmlgfiaaaGreatHa46
import Derived.Test.YtejeppjmlgfiaaaGreatHa38
namespace Go.Proofs.YtejeppjmlgfiaaaGreat
open Go.RowKit
set_option linter.unusedVariables false

section
variable {F : Int → Int → Int → List Int → Int} {Z : Int → Int → Int → Int → Int} {R : Int → Int → Int → Int → List Int} {m : Nat} {c : Cir} {key off : Int} {a b : List Int}
/-- What makes a scheme: its gates fit, its labels and rows are labels. -/
structure Schm (F : Int → Int → Int → List Int → Int) (Z : Int → Int → Int → Int → Int) (R : Int → Int → Int → Int → List Int) (m : Nat) : Prop where
  and : ∀ off, 0 ≤ off ∧ off ≤ 65535 ∧ off % 2 = 1 → AndOk off F (Z off) (R off)
  zbd : ∀ off, 0 ≤ off ∧ off ≤ 65535 → ∀ w x y, 0 ≤ x ∧ x ≤ 65535 → 0 ≤ y ∧ y ≤ 65535 → 0 ≤ Z off w x y ∧ Z off w x y ≤ 65535
  rbd : ∀ off, 0 ≤ off ∧ off ≤ 65535 → ∀ w x y, 0 ≤ x ∧ x ≤ 65535 → 0 ≤ y ∧ y ≤ 65535 → (R off w x y).length = m ∧ ∀ z ∈ R off w x y, 0 ≤ z ∧ z ≤ 65535
  tab : ∀ {key off : Int} {c : Cir}, cirB c = true → (0 ≤ off ∧ off ≤ 65535) → tabB m c (tabM (Z off) (R off) key off c) = true
  fbd : ∀ w x y r, 0 ≤ x ∧ x ≤ 65535 → (∀ z ∈ r, 0 ≤ z ∧ z ≤ 65535) → 0 ≤ F w x y r ∧ F w x y r ≤ 65535
theorem hgS : Schm joinM hgZ hgR 2 := ⟨fun off h => hg_and h, fun off h w x y hx hy => hgZ_bd h hx w y, fun off h w x y hx hy => hgR_bd h hx w y, fun hc ho => hg_tab_ok hc ho, joinM_ok⟩
theorem gbS : Schm openM gbZ gbR 3 := ⟨fun off h => gb_and h, fun off h w x y hx hy => gbZ_bd h w x y, fun off h w x y hx hy => gbR_bd h w x y, fun hc ho => gb_tab_ok hc ho, openM_ok⟩
/-- The labels, the values and the zero labels of all wires belong together. -/
theorem run_tied (S : Schm F Z R m) (h : askedB c a b = true) (ho : 0 ≤ off ∧ off ≤ 65535 ∧ off % 2 = 1) :
    Tied off (wiresM F (tabM (Z off) (R off) key off c) (lbInM key off (a ++ b)) c.gs).1 (valsM (a ++ b) c.gs) (zrM (Z off) (R off) key off c.ins.toNat c.gs).zs := by
  have hc := (askedB_of h).1
  have hin := asked_in h
  have hbt : ∀ x ∈ a ++ b, x = 0 ∨ x = 1 := fun x hx => bit_cases hin.2 hx
  have hci : ((c.ins.toNat : Nat) : Int) = c.ins := by have := cirB_bd hc; unfold Cir.ins; omega
  have := (garbled_run (F := F) (Z := Z off) (R := R off) (key := key) (off := off) (n := c.ins.toNat) (gs := c.gs) (m := m) (inp := a ++ b) (S.and off ho) ho (S.zbd off ⟨ho.1, ho.2.1⟩) (S.rbd off ⟨ho.1, ho.2.1⟩)
    (by omega) hbt (by rw [hci]; exact cirB_gates hc) (tabM (Z off) (R off) key off c) rfl rfl c.gs.length (Nat.le_refl _)).1
  rwa [List.take_of_length_le (Nat.le_refl _)] at this
theorem run_outs (h : askedB c a b = true) : ∀ k ∈ c.outs, 0 ≤ k ∧ k < ((zrM (Z off) (R off) key off c.ins.toNat c.gs).zs.length : Int) := by
  have hc := (askedB_of h).1
  have h0 : 0 ≤ c.ins := by have := cirB_bd hc; unfold Cir.ins; omega
  intro k hk
  have h1 := allB_bd (cirB_outs hc) k hk
  have h2 := (zr_inv (F := Z off) (R := R off) (key := key) (off := off) (n := c.ins.toNat) (cirB_kinds hc) c.gs.length (Nat.le_refl _)).1
  rw [List.take_of_length_le (Nat.le_refl _)] at h2
  unfold Cir.wires at h1
  omega
theorem run_zbd (S : Schm F Z R m) (ho : 0 ≤ off ∧ off ≤ 65535) (key : Int) (c : Cir) : ∀ x ∈ (zrM (Z off) (R off) key off c.ins.toNat c.gs).zs, 0 ≤ x ∧ x ≤ 65535 :=
  (zr_bd ho (S.zbd off ho) (S.rbd off ho) key c.ins.toNat c.gs).1
/-- What a run gives are the values in clear. -/
theorem run_clear (S : Schm F Z R m) {r : List Int} (h : runM F Z R c key a b = some r) : clearM c a b = some r := by
  unfold runM at h
  split at h
  · rename_i hq
    simp only [Bool.and_eq_true] at hq
    injection h with h
    subst h
    have ho := offM_bd key
    have ht := run_tied S (key := key) hq.1 ho
    have hz := run_zbd S ⟨ho.1, ho.2.1⟩ key c
    have hbt : ∀ x ∈ a ++ b, x = 0 ∨ x = 1 := fun x hx => bit_cases (asked_in hq.1).2 hx
    have := decode_run ht ho hz (vals_bit hbt c.gs) c.outs (run_outs hq.1)
    unfold clearM
    rw [if_pos hq.1]
    unfold outsM tabM
    simp only at this ⊢
    rw [← this]
    rfl
  · cases h
/-- Each label of an out is the one that stands for its value. -/
theorem run_labels (S : Schm F Z R m) (hq : askedB c a b = true) {i : Nat} {k : Int} (hk : c.outs[i]? = some k) :
    ∃ v l z, (pickM (valsM (a ++ b) c.gs) c.outs)[i]? = some v ∧ (outsM F Z R c key a b)[i]? = some l ∧ (zrM (Z (offM key)) (R (offM key)) key (offM key) c.ins.toNat c.gs).zs[k.toNat]? = some z ∧
      0 ≤ k ∧ k < ((zrM (Z (offM key)) (R (offM key)) key (offM key) c.ins.toNat c.gs).zs.length : Int) ∧ (v = 0 ∨ v = 1) ∧ (0 ≤ z ∧ z ≤ 65535) ∧ l = if v = 1 then xorI z (offM key) else z := by
  have ho := offM_bd key
  have ht := run_tied S (key := key) hq ho
  have hb := run_outs (Z := Z) (R := R) (key := key) (off := offM key) hq k (List.mem_of_getElem? hk)
  have hz := run_zbd S ⟨ho.1, ho.2.1⟩ key c
  have hbt : ∀ x ∈ a ++ b, x = 0 ∨ x = 1 := fun x hx => bit_cases (asked_in hq).2 hx
  have hv := elt_bit (vals_bit hbt c.gs) k
  have hzb := elt_bd (k := k) hz
  obtain ⟨j, rfl, hj, hje⟩ := elt_at hb.1 hb.2
  refine ⟨elt (valsM (a ++ b) c.gs) (j : Int), elt (wiresM F (tabM (Z (offM key)) (R (offM key)) key (offM key) c) (lbInM key (offM key) (a ++ b)) c.gs).1 (j : Int), elt (zrM (Z (offM key)) (R (offM key)) key (offM key) c.ins.toNat c.gs).zs (j : Int), ?_, ?_, hje, hb.1, hb.2, hv, hzb, ?_⟩
  · unfold pickM; rw [List.getElem?_map, hk]; rfl
  · unfold outsM pickM; rw [List.getElem?_map, hk]; rfl
  · rw [ht.get hb.1 hb.2]
    rcases hv with e | e <;> rw [e]
    · rw [if_neg (by decide), Int.mul_zero, xorI_zero hzb.1]
    · rw [if_pos rfl, Int.mul_one]
theorem run_zeros (h : askedB c a b = true) (hk : inB key 0 1000000000 = true) : zerosM Z R c key (offM key) = some (zrM (Z (offM key)) (R (offM key)) key (offM key) c.ins.toNat c.gs).zs ∧ tablesM Z R c key (offM key) = some (tabM (Z (offM key)) (R (offM key)) key (offM key) c) := by
  have hkey : keyB c key (offM key) = true := by unfold keyB; rw [(askedB_of h).1, hk, offB_off]; rfl
  exact ⟨by unfold zerosM; rw [if_pos hkey], by unfold tablesM; rw [if_pos hkey]⟩
theorem run_some {r : List Int} (h : runM F Z R c key a b = some r) : askedB c a b = true ∧ inB key 0 1000000000 = true := by
  unfold runM at h
  split at h
  · rename_i hq; simpa only [Bool.and_eq_true] using hq
  · cases h
/-- Made tables are valid, and as many as there are gates. -/
theorem made_ok (S : Schm F Z R m) {T : Gb} (h : tablesM Z R c key off = some T) : isTabM m c T = some true ∧ rowsM m c = some ((m : Int) * (T.rows.length : Int)) ∧ cirB c = true ∧ T.sz ≤ 2000 ∨ 3 < m := by
  by_cases hm : 3 < m
  · exact Or.inr hm
  refine Or.inl ?_
  unfold tablesM at h
  split at h
  · rename_i hq
    injection h with h
    have hk := keyB_of hq
    have ht : tabB m c T = true := by rw [← h]; exact S.tab hk.1 hk.2.2.1
    refine ⟨by unfold isTabM; rw [if_pos hk.1, ht], ?_, hk.1, tab_sz hk.1 ht (by omega)⟩
    unfold rowsM
    rw [if_pos hk.1, (tabB_of ht).1]
  · cases h
theorem made_sz (S : Schm F Z R m) (hm : m ≤ 3) : ((tablesM Z R c key off).getD Gb.none).sz ≤ 2000 := by
  rcases h : tablesM Z R c key off with _ | T
  · decide
  · rcases made_ok S h with h1 | h1
    · exact h1.2.2.2
    · omega
theorem made_len : ((zerosM Z R c key off).getD []).length ≤ 400 := by
  unfold zerosM
  split
  · rename_i hq
    have hc := (keyB_of hq).1
    have hb := cirB_bd hc
    have h2 := (zr_inv (F := Z off) (R := R off) (key := key) (off := off) (n := c.ins.toNat) (cirB_kinds hc) c.gs.length (Nat.le_refl _)).1
    rw [List.take_of_length_le (Nat.le_refl _)] at h2
    simp only [Option.getD_some, h2]
    unfold Cir.ins
    omega
  · simp
theorem clear_len : ((clearM c a b).getD []).length ≤ 40 := by
  unfold clearM
  split
  · rename_i hq
    have hb := cirB_bd (askedB_of hq).1
    simp only [Option.getD_some, pickM_length]
    omega
  · simp
end
end Go.Proofs.YtejeppjmlgfiaaaGreat
