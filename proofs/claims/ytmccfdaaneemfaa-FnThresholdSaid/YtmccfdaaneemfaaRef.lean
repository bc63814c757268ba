/- Contracts of numbers from a digest, of the shares of a value, and of sums of shares. Conditions: the numbers are small, the lists short. -/
import Derived.Test.YtmccfdaaneemfaaThrC
import Derived.Test.YtmccfdaaneemfaaAppR
import Derived.Test.YtmccfdaaneemfaaDig3
namespace Go.Proofs.Ytmccfdaaneemfaa
open Go.RowKit
set_option linter.unusedVariables false

theorem apart_app {J u v' : Value} {wr : World} (ha : ∀ g, u.ownBlock = some g → J.ownBlock ≠ some g) (hJ : ∀ g, J.ownBlock = some g → g < wr.heap.size) (hfr : ∀ g, v'.ownBlock = some g → u.ownBlock = some g ∨ wr.heap.size ≤ g) : ∀ g, v'.ownBlock = some g → J.ownBlock ≠ some g := fun g hg e => by
  rcases hfr g hg with h | h
  · exact ha g h e
  · have := hJ g e; omega
theorem bd_snoc {l : List Int} {n : Int} (h : ∀ x ∈ l, -1000000000000 ≤ x ∧ x ≤ 1000000000000) (hn : 1 ≤ n ∧ n ≤ 100000) : ∀ x ∈ l ++ [n], -1000000000000 ≤ x ∧ x ≤ 1000000000000 := by
  intro x hx; rcases List.mem_append.1 hx with h1 | h1
  · exact h x h1
  · simp at h1; omega
theorem c_impl_numberFrom {v : Value} {l : List Int} {n : Int} {w : World} (h : Ints w v l) (hl : l.length ≤ 900) (hx : ∀ x ∈ l, -1000000000000 ≤ x ∧ x ≤ 1000000000000) (hn : 1 ≤ n ∧ n ≤ 100000) :
    Calls Try.prog 91 #[v, .int .i64 n] w fun e w' => e = .returned (.int .i64 (digM (l ++ [n]) % n)) ∧ Below w.heap.size w w' := by
  have H := Lib.hid h
  obtain ⟨A, c, rfl, -⟩ := h
  have HX := Lib.hid (bd_snoc hx hn)
  have hn0 : ¬ n = 0 := by omega
  clear hx
  go_enter Try.func91, Try.ntmps91
  go_wp2_with fail
  refine (c_impl_with2 (H.out.alloc _) (ints_lit w [n] _ rfl (by simp)) (by omega) (by simp)).mono ?_
  rintro e w1 ⟨u, rfl, hu, hb1⟩
  have HU := Lib.hid hu.ints
  have HB := Lib.hid (lit_trans hb1)
  have hd := digM_bd (l ++ [n])
  clear hu hb1
  go_wp2_with fail
  refine (c_impl_digest HU.out (by simp; omega) HX.out).mono ?_
  rintro e w2 ⟨rfl, hb2⟩
  obtain ⟨D, hD⟩ : ∃ D, digM (l ++ [n]) = D := ⟨_, rfl⟩
  have HDD := Lib.hid hD
  rw [hD] at hd ⊢
  clear hD
  go_wp2
  go_ret
  exact ⟨by rw [HDD.out]; rfl, below_step HB.out hb2⟩
theorem c_spec_dgWith {v : Value} {l : List Int} {n : Int} {w : World} (h : Ints w v l) (hl : l.length ≤ 900) : Calls Try.prog 146 #[v, .int .i64 n] w (RetI w (l ++ [n])) := by
  have H := Lib.hid h
  obtain ⟨A, c, rfl, -⟩ := h
  go_enter Try.func146, Try.ntmps146
  go_wp2_with fail
  refine (c_spec_l1Own H.out (by omega)).mono ?_
  rintro e w1 ⟨u, rfl, hu, hb1⟩
  have hsz := hb1.size
  go_wp2_with (at_builtin; refine wp_app1 (B := w.heap.size) rfl rfl Try.underlying32 info_int rfl hu rfl rfl rfl (by unfold maxLen; omega) (by omega) hsz ?_; intro v' w2 ho hg hfr)
  go_ret
  exact RetI.mk (OwnI.snoc ho) (below_app hb1 hu hg (Nat.le_refl _))
theorem c_spec_dgBelow {v : Value} {l : List Int} {n : Int} {w : World} (h : Ints w v l) (hl : l.length ≤ 900) (hx : ∀ x ∈ l, -1000000000000 ≤ x ∧ x ≤ 1000000000000) (hn : 1 ≤ n ∧ n ≤ 100000) :
    Calls Try.prog 132 #[v, .int .i64 n] w fun e w' => e = .returned (.int .i64 (digM (l ++ [n]) % n)) ∧ Below w.heap.size w w' := by
  have H := Lib.hid h
  obtain ⟨A, c, rfl, -⟩ := h
  have HX := Lib.hid (bd_snoc hx hn)
  have hn0 : ¬ n = 0 := by omega
  clear hx
  go_enter Try.func132, Try.ntmps132
  go_wp2_with fail
  refine (c_spec_dgWith H.out hl).mono ?_
  rintro e w1 ⟨u, rfl, hu, hb1⟩
  have HU := Lib.hid hu.ints
  have HB := Lib.hid hb1
  have hd := digM_bd (l ++ [n])
  clear hu hb1
  go_wp2_with fail
  refine (c_spec_dgMix HU.out (by simp; omega) HX.out).mono ?_
  rintro e w2 ⟨rfl, hb2⟩
  obtain ⟨D, hD⟩ : ∃ D, digM (l ++ [n]) = D := ⟨_, rfl⟩
  have HDD := Lib.hid hD
  rw [hD] at hd ⊢
  clear hD
  go_wp2
  go_ret
  exact ⟨by rw [HDD.out]; rfl, below_step HB.out hb2⟩

/-! ### the shares of a value -/
def coefN (p key v : Int) (m : Nat) : List Int := v :: (List.range m).map fun (k : Nat) => digM [key, (k : Int) + 1, 14, p] % p
def splitN (p : Int) (cs : List Int) (n : Nat) : List Int := (List.range n).map fun (x : Nat) => evalM p cs ((x : Int) + 1)
theorem coefN_snoc (p key v : Int) (m : Nat) : coefN p key v (m + 1) = coefN p key v m ++ [digM [key, (m : Int) + 1, 14, p] % p] := by simp [coefN, List.range_succ]
theorem splitN_snoc (p : Int) (cs : List Int) (n : Nat) : splitN p cs (n + 1) = splitN p cs n ++ [evalM p cs ((n : Int) + 1)] := by simp [splitN, List.range_succ]
theorem coefN_length (p key v : Int) (m : Nat) : (coefN p key v m).length = m + 1 := by simp [coefN]
theorem splitN_length (p : Int) (cs : List Int) (n : Nat) : (splitN p cs n).length = n := by simp [splitN]
theorem coefN_bd {p : Int} (hp : 0 < p) (key : Int) {v : Int} (hv : 0 ≤ v ∧ v < p) (m : Nat) : ∀ z ∈ coefN p key v m, 0 ≤ z ∧ z < p := by
  intro z hz
  rcases List.mem_cons.1 hz with rfl | h
  · exact hv
  · obtain ⟨k, _, rfl⟩ := List.mem_map.1 h; exact mod_bd _ hp
theorem splitN_bd {p : Int} (hp : 0 < p) (cs : List Int) (n : Nat) : ∀ z ∈ splitN p cs n, 0 ≤ z ∧ z < p := by
  intro z hz
  obtain ⟨k, _, rfl⟩ := List.mem_map.1 hz; exact evalM_bd hp _ _
set_option maxRecDepth 100000 in
set_option maxHeartbeats 2000000 in
theorem c_impl_splitThreshold {p key v : Int} {n t : Nat} {w : World} (hp : 2 ≤ p ∧ p ≤ 251) (hk : 0 ≤ key ∧ key ≤ 1000000000) (hv : 0 ≤ v ∧ v < p) (hn : n ≤ 100) (ht : 1 ≤ t ∧ t ≤ 100) :
    Calls Try.prog 109 #[.int .i64 p, .int .i64 key, .int .i64 v, .int .i64 (n : Int), .int .i64 (t : Int)] w (RetI w (splitN p (coefN p key v (t - 1)) n)) := by
  have hn0 : (0 : Int) ≤ (n : Int) := Int.natCast_nonneg _
  have ht0 : (0 : Int) ≤ (t : Int) := Int.natCast_nonneg _
  have HC0 := Lib.hid (show OwnI (w.alloc (.cells #[.int .i64 v] 3)) w.heap.size (.slice (some ⟨w.heap.size, 0, none⟩) 1 1) (coefN p key v 0) from OwnI.lit (w := w) [v] #[.int .i64 v] rfl (Nat.le_refl _) (by simp))
  have HB0 := Lib.hid ((Below.refl w.heap.size w).alloc (Nat.le_refl _) (.cells #[.int .i64 v] 3))
  go_enter Try.func109, Try.ntmps109
  go_wp2
  go_loopw [11, 13] (fun cv i wr => ∃ (m : Nat) (ov : Value), m + 1 ≤ t ∧ i = .int .i64 ((m : Int) + 1) ∧ Hid (OwnI wr w.heap.size cv (coefN p key v m)) ∧ ov = .slice (some ⟨w.heap.size + 1, 0, none⟩) 0 0 ∧ Hid (OwnI wr w.heap.size ov []) ∧ Hid (∀ g, ov.ownBlock = some g → cv.ownBlock ≠ some g) ∧ Hid (Below w.heap.size w wr)) (fun _ i _ => t - (intOf i).toNat)
  case atStart => exact ⟨0, _, by omega, rfl, Lib.hid (HC0.out.alloc _), rfl, Lib.hid (by have := OwnI.empty (w := w.alloc (.cells #[.int .i64 v] 3)) (B := w.heap.size) (by simp); simpa using this), Lib.hid (fun g h e => by simp [Value.ownBlock] at h e; omega), Lib.hid (HB0.out.alloc (by simp) _)⟩
  case round =>
    obtain ⟨m, ov, hm, rfl, HC, rfl, HV, HA, HB⟩ := hrel
    obtain ⟨Ac, cc, rfl, hlc, hmc, -⟩ := own_form HC.out
    have hm0 : (0 : Int) ≤ (m : Int) := Int.natCast_nonneg _
    obtain ⟨wa, rfl⟩ : ∃ W, W = wr := ⟨wr, rfl⟩
    by_cases hlt : m + 1 < t
    · have HSN := Lib.hid (coefN_snoc p key v m)
      have hcl : (coefN p key v m).length ≤ 101 := by rw [coefN_length]; omega
      have HD := Lib.hid (show digM ([key, (m : Int) + 1, 14] ++ [p]) = digM [key, (m : Int) + 1, 14, p] from rfl)
      have HX := Lib.hid (show ∀ x ∈ [key, (m : Int) + 1, 14], -1000000000000 ≤ x ∧ x ≤ 1000000000000 by intro x hx; simp at hx; omega)
      generalize coefN p key v m = Cm at *
      go_wp2_with fail
      refine (c_impl_numberFrom (n := p) (ints_lit wa [key, (m : Int) + 1, 14] _ rfl (by simp)) (by simp) HX.out (by omega)).mono ?_
      rintro e w1 ⟨rfl, hb1⟩
      rw [HD.out]
      have HB1 := Lib.hid (below_step HB.out (lit_trans hb1))
      have HC1 := Lib.hid (HC.out.below (lit_trans hb1))
      have HV1 := Lib.hid (HV.out.below (lit_trans hb1))
      have hz1 := HB1.out.size
      clear hb1
      generalize digM [key, (m : Int) + 1, 14, p] % p = D at *
      go_wp2_with (at_builtin; refine wp_app1 (B := w.heap.size) rfl rfl Try.underlying32 info_int rfl HC1.out rfl rfl rfl (by unfold maxLen; omega) (by omega) hz1 ?_; intro v' w2 ho hg hfr; have HC2 := Lib.hid (OwnI.snoc ho); have HB2 := Lib.hid (below_app HB1.out HC1.out hg (Nat.le_refl _)); have HV2 := Lib.hid (HV1.out.grown hg (fun g hg' e => HA.out g hg' e.symm)); have HA2 : Hid (∀ g, (.slice (some ⟨w.heap.size + 1, 0, none⟩) 0 0 : Value).ownBlock = some g → v'.ownBlock ≠ some g) := Lib.hid (fun g hg' e => apart_app (fun g h e => HA.out g e h) (fun g h => HV1.out.lt g h) hfr g e hg'); clear ho hg hfr)
      go_roundw
      case rel => exact ⟨m + 1, _, by omega, by go_num, by rw [HSN.out]; exact HC2, rfl, HV2, HA2, HB2⟩
      case measure => simp [intOf]; omega
    · have HTM := Lib.hid (show t - 1 = m by omega)
      have HCL := Lib.hid (coefN_length p key v m)
      have HCB := Lib.hid (coefN_bd (p := p) (by omega) key hv m)
      have hcl : (coefN p key v m).length ≤ 101 := by rw [coefN_length]; omega
      have HCE := Lib.hid (show ∀ C, coefN p key v m = C → coefN p key v m = C from fun _ h => h)
      generalize hCm : coefN p key v m = Cm at HC HA HCL HCB hcl ⊢
      have HCF := Lib.hid hCm
      clear hCm HCE
      go_wp2
      go_loopw [12, 14] (fun ov i wr => ∃ k : Nat, k ≤ n ∧ i = .int .i64 ((k : Int) + 1) ∧ Hid (OwnI wr w.heap.size (.slice Ac Cm.length cc) Cm) ∧ Hid (OwnI wr w.heap.size ov (splitN p Cm k)) ∧ Hid (∀ g, ov.ownBlock = some g → (Value.slice Ac Cm.length cc).ownBlock ≠ some g) ∧ Hid (Below w.heap.size w wr)) (fun _ i _ => n + 1 - (intOf i).toNat)
      case atStart => exact ⟨0, Nat.zero_le _, rfl, HC, HV, HA, HB⟩
      case round =>
        obtain ⟨k, hk, rfl, HC, HO, HA, HB⟩ := hrel
        have hk0 : (0 : Int) ≤ (k : Int) := Int.natCast_nonneg _
        obtain ⟨wb, rfl⟩ : ∃ W, W = wr := ⟨wr, rfl⟩
        by_cases hlk : k < n
        · have HSN := Lib.hid (splitN_snoc p Cm k)
          have hsl : (splitN p Cm k).length ≤ 100 := by rw [splitN_length]; omega
          have hz := HB.out.size
          generalize splitN p Cm k = Sk at *
          go_wp2_with fail
          refine (c_impl_evalPoly HC.out.ints (by omega) (by omega) (fun z hz => by have := HCB.out z hz; omega) (by omega)).mono ?_
          rintro e w1 ⟨rfl, rfl⟩
          generalize evalM p Cm ((k : Int) + 1) = E at *
          go_wp2_with (at_builtin; refine wp_app1 (B := w.heap.size) rfl rfl Try.underlying32 info_int rfl HO.out rfl rfl rfl (by unfold maxLen; omega) (by omega) hz ?_; intro v' w2 ho hg hfr; have HO2 := Lib.hid (OwnI.snoc ho); have HB2 := Lib.hid (below_app HB.out HO.out hg (Nat.le_refl _)); have HC2 := Lib.hid (HC.out.grown hg (fun g hg' e => HA.out g e.symm hg')); have HA2 := Lib.hid (apart_app HA.out (fun g h => HC.out.lt g h) hfr); clear ho hg hfr)
          go_roundw
          case rel => exact ⟨k + 1, by omega, by go_num, HC2, by rw [HSN.out]; exact HO2, HA2, HB2⟩
          case measure => simp [intOf]; omega
        · have HE := Lib.hid (show k = n by omega)
          go_wp2
          go_ret
          exact RetI.mk (by have := HO.out; rw [HE.out] at this; rw [HTM.out, HCF.out]; exact this) HB.out
set_option maxRecDepth 100000 in
set_option maxHeartbeats 2000000 in
theorem c_spec_thSplit {p key v : Int} {n t : Nat} {w : World} (hp : 2 ≤ p ∧ p ≤ 251) (hk : 0 ≤ key ∧ key ≤ 1000000000) (hv : 0 ≤ v ∧ v < p) (hn : n ≤ 100) (ht : 1 ≤ t ∧ t ≤ 100) :
    Calls Try.prog 112 #[.int .i64 p, .int .i64 key, .int .i64 v, .int .i64 (n : Int), .int .i64 (t : Int)] w (RetI w (splitN p (coefN p key v (t - 1)) n)) := by
  have hn0 : (0 : Int) ≤ (n : Int) := Int.natCast_nonneg _
  have ht0 : (0 : Int) ≤ (t : Int) := Int.natCast_nonneg _
  have HC0 := Lib.hid (show OwnI (w.alloc (.cells #[.int .i64 v] 3)) w.heap.size (.slice (some ⟨w.heap.size, 0, none⟩) 1 1) (coefN p key v 0) from OwnI.lit (w := w) [v] #[.int .i64 v] rfl (Nat.le_refl _) (by simp))
  have HB0 := Lib.hid ((Below.refl w.heap.size w).alloc (Nat.le_refl _) (.cells #[.int .i64 v] 3))
  go_enter Try.func112, Try.ntmps112
  go_wp2
  go_loopw [11, 12] (fun cv i wr => ∃ (m : Nat) (ov : Value), m + 1 ≤ t ∧ i = .int .i64 ((m : Int) + 1) ∧ Hid (OwnI wr w.heap.size cv (coefN p key v m)) ∧ ov = .slice none 0 0 ∧ Hid (OwnI wr w.heap.size ov []) ∧ Hid (∀ g, ov.ownBlock = some g → cv.ownBlock ≠ some g) ∧ Hid (Below w.heap.size w wr)) (fun _ i _ => t - (intOf i).toNat)
  case atStart => exact ⟨0, _, by omega, rfl, HC0, rfl, Lib.hid (OwnI.nil _ _), Lib.hid (fun g h e => by cases h), HB0⟩
  case round =>
    obtain ⟨m, ov, hm, rfl, HC, rfl, HV, HA, HB⟩ := hrel
    obtain ⟨Ac, cc, rfl, hlc, hmc, -⟩ := own_form HC.out
    have hm0 : (0 : Int) ≤ (m : Int) := Int.natCast_nonneg _
    obtain ⟨wa, rfl⟩ : ∃ W, W = wr := ⟨wr, rfl⟩
    by_cases hlt : m + 1 < t
    · have HSN := Lib.hid (coefN_snoc p key v m)
      have hcl : (coefN p key v m).length ≤ 101 := by rw [coefN_length]; omega
      have HD := Lib.hid (show digM ([key, (m : Int) + 1, 14] ++ [p]) = digM [key, (m : Int) + 1, 14, p] from rfl)
      have HX := Lib.hid (show ∀ x ∈ [key, (m : Int) + 1, 14], -1000000000000 ≤ x ∧ x ≤ 1000000000000 by intro x hx; simp at hx; omega)
      generalize coefN p key v m = Cm at *
      go_wp2_with fail
      refine (c_spec_dgBelow (n := p) (ints_lit wa [key, (m : Int) + 1, 14] _ rfl (by simp)) (by simp) HX.out (by omega)).mono ?_
      rintro e w1 ⟨rfl, hb1⟩
      rw [HD.out]
      have HB1 := Lib.hid (below_step HB.out (lit_trans hb1))
      have HC1 := Lib.hid (HC.out.below (lit_trans hb1))
      have HV1 := Lib.hid (HV.out.below (lit_trans hb1))
      have hz1 := HB1.out.size
      clear hb1
      generalize digM [key, (m : Int) + 1, 14, p] % p = D at *
      go_wp2_with (at_builtin; refine wp_app1 (B := w.heap.size) rfl rfl Try.underlying32 info_int rfl HC1.out rfl rfl rfl (by unfold maxLen; omega) (by omega) hz1 ?_; intro v' w2 ho hg hfr; have HC2 := Lib.hid (OwnI.snoc ho); have HB2 := Lib.hid (below_app HB1.out HC1.out hg (Nat.le_refl _)); have HV2 := Lib.hid (HV1.out.grown hg (fun g hg' e => HA.out g hg' e.symm)); have HA2 : Hid (∀ g, (.slice none 0 0 : Value).ownBlock = some g → v'.ownBlock ≠ some g) := Lib.hid (fun g hg' e => apart_app (fun g h e => HA.out g e h) (fun g h => HV1.out.lt g h) hfr g e hg'); clear ho hg hfr)
      go_roundw
      case rel => exact ⟨m + 1, _, by omega, by go_num, by rw [HSN.out]; exact HC2, rfl, HV2, HA2, HB2⟩
      case measure => simp [intOf]; omega
    · have HTM := Lib.hid (show t - 1 = m by omega)
      have HCL := Lib.hid (coefN_length p key v m)
      have HCB := Lib.hid (coefN_bd (p := p) (by omega) key hv m)
      have hcl : (coefN p key v m).length ≤ 101 := by rw [coefN_length]; omega
      have HCE := Lib.hid (show ∀ C, coefN p key v m = C → coefN p key v m = C from fun _ h => h)
      generalize hCm : coefN p key v m = Cm at HC HA HCL HCB hcl ⊢
      have HCF := Lib.hid hCm
      clear hCm HCE
      go_wp2
      go_loopw [13, 14] (fun ov i wr => ∃ k : Nat, k ≤ n ∧ i = .int .i64 ((k : Int) + 1) ∧ Hid (OwnI wr w.heap.size (.slice Ac Cm.length cc) Cm) ∧ Hid (OwnI wr w.heap.size ov (splitN p Cm k)) ∧ Hid (∀ g, ov.ownBlock = some g → (Value.slice Ac Cm.length cc).ownBlock ≠ some g) ∧ Hid (Below w.heap.size w wr)) (fun _ i _ => n + 1 - (intOf i).toNat)
      case atStart => exact ⟨0, Nat.zero_le _, rfl, HC, HV, HA, HB⟩
      case round =>
        obtain ⟨k, hk, rfl, HC, HO, HA, HB⟩ := hrel
        have hk0 : (0 : Int) ≤ (k : Int) := Int.natCast_nonneg _
        obtain ⟨wb, rfl⟩ : ∃ W, W = wr := ⟨wr, rfl⟩
        by_cases hlk : k < n
        · have HSN := Lib.hid (splitN_snoc p Cm k)
          have hsl : (splitN p Cm k).length ≤ 100 := by rw [splitN_length]; omega
          have hz := HB.out.size
          generalize splitN p Cm k = Sk at *
          go_wp2_with fail
          refine (c_spec_fpEval HC.out.ints (by omega) (by omega) (fun z hz => by have := HCB.out z hz; omega) (by omega)).mono ?_
          rintro e w1 ⟨rfl, rfl⟩
          generalize evalM p Cm ((k : Int) + 1) = E at *
          go_wp2_with (at_builtin; refine wp_app1 (B := w.heap.size) rfl rfl Try.underlying32 info_int rfl HO.out rfl rfl rfl (by unfold maxLen; omega) (by omega) hz ?_; intro v' w2 ho hg hfr; have HO2 := Lib.hid (OwnI.snoc ho); have HB2 := Lib.hid (below_app HB.out HO.out hg (Nat.le_refl _)); have HC2 := Lib.hid (HC.out.grown hg (fun g hg' e => HA.out g e.symm hg')); have HA2 := Lib.hid (apart_app HA.out (fun g h => HC.out.lt g h) hfr); clear ho hg hfr)
          go_roundw
          case rel => exact ⟨k + 1, by omega, by go_num, HC2, by rw [HSN.out]; exact HO2, HA2, HB2⟩
          case measure => simp [intOf]; omega
        · have HE := Lib.hid (show k = n by omega)
          go_wp2
          go_ret
          exact RetI.mk (by have := HO.out; rw [HE.out] at this; rw [HTM.out, HCF.out]; exact this) HB.out
end Go.Proofs.Ytmccfdaaneemfaa
