/- Contracts of AreShares, of the weights, of shares left out, and of the only wrong share. Conditions: the lists are short. -/
import Derived.Test.YtmccfdaaneemfaaThrB
namespace Go.Proofs.Ytmccfdaaneemfaa
open Go.RowKit
set_option linter.unusedVariables false

theorem nat_of {t : Int} (h : 0 ≤ t) : ∃ n : Nat, t = (n : Int) := ⟨t.toNat, by omega⟩
/-- Holders with so many coefficients are asked. -/
noncomputable def askB (p : Int) (xs ys : List Int) (t : Int) : Bool := holdB p xs ys && inB t 1 (xs.length : Int)
theorem askB_of {p : Int} {xs ys : List Int} {t : Int} (h : askB p xs ys t = true) : holdB p xs ys = true ∧ ∃ n : Nat, t = (n : Int) ∧ 1 ≤ n ∧ n ≤ xs.length := by
  simp only [askB, Bool.and_eq_true] at h
  have h2 := inB_bd h.2
  exact ⟨h.1, t.toNat, by omega, by omega, by omega⟩
theorem fit_same {p : Int} {xs ys : List Int} (h : ptsB p xs ys = true) (t : Nat) : fitI p xs ys t = fitS p xs ys t := by
  obtain ⟨hpr, hp, hxb, hyb, hlen, hll, hnd⟩ := ptsB_of h
  exact fitI_eq hpr (dis_of hnd hxb) hll hyb t
noncomputable def areShM (p : Int) (xs ys : List Int) (t : Int) : Option Bool := if askB p xs ys t then some (fitS p xs ys t.toNat) else none
def bV (o : Option Bool) : Bool := o.getD false
set_option maxRecDepth 100000 in
set_option maxHeartbeats 1000000 in
theorem c_impl_AreShares {vx vy : Value} {xs ys : List Int} {p t : Int} {w : World} (hx : Ints w vx xs) (hy : Ints w vy ys) (hlx : xs.length ≤ 2097152) (hly : ys.length ≤ 2097152) :
    Calls Try.prog 64 #[.int .i64 p, vx, vy, .int .i64 t] w fun e w' => e = .returned (.tuple #[.bool (bV (areShM p xs ys t)), .bool (areShM p xs ys t).isSome]) ∧ Below w.heap.size w w' := by
  have HX := Lib.hid hx
  have HY := Lib.hid hy
  obtain ⟨A, c, rfl, -⟩ := hx
  obtain ⟨A', c', rfl, -⟩ := hy
  rcases hP : holdB p xs ys with _ | _
  · have HM := Lib.hid (show areShM p xs ys t = none by unfold areShM askB; rw [hP]; rfl)
    go_enter Try.func64, Try.ntmps64
    go_wp2_with fail
    refine (c_impl_areHolders HX.out HY.out hlx hly).mono ?_
    rintro e w1 ⟨rfl, hb1⟩
    go_wp2
    go_ret2; exact ⟨by rw [HM.out]; rfl, hb1⟩
  · rcases hI : inB t 1 (xs.length : Int) with _ | _
    · have HM := Lib.hid (show areShM p xs ys t = none by unfold areShM askB; rw [hP, hI]; rfl)
      go_enter Try.func64, Try.ntmps64
      go_wp2_with fail
      refine (c_impl_areHolders HX.out HY.out hlx hly).mono ?_
      rintro e w1 ⟨rfl, hb1⟩
      go_wp2_with (go_at_call 70; refine (c_impl_within).mono ?_; rintro e w' ⟨rfl, rfl⟩)
      go_ret2; exact ⟨by rw [HM.out]; rfl, hb1⟩
    · have hA : askB p xs ys t = true := by unfold askB; rw [hP, hI]; rfl
      obtain ⟨-, n, rfl, hn1, hn2⟩ := askB_of hA
      have hpts := (holdB_of hP).1
      obtain ⟨hpr, hpb, hxb, hyb, hlen, hll, hnd⟩ := ptsB_of hpts
      have HM := Lib.hid (show areShM p xs ys (n : Int) = some (fitI p xs ys n) by unfold areShM; rw [hA, fit_same hpts]; rfl)
      have HXB := Lib.hid hxb
      have HYB := Lib.hid hyb
      have HLL := Lib.hid hll
      clear hpr hxb hyb hll hnd
      go_enter Try.func64, Try.ntmps64
      go_wp2_with fail
      refine (c_impl_areHolders HX.out HY.out hlx hly).mono ?_
      rintro e w1 ⟨rfl, hb1⟩
      go_wp2_with (go_at_call 70; refine (c_impl_within).mono ?_; rintro e w' ⟨rfl, rfl⟩)
      refine (c_impl_fit (t := n) (HX.out.below hb1) (HY.out.below hb1) (by omega) HLL.out (by omega) hpb HXB.out HYB.out).mono ?_
      rintro e w2 ⟨rfl, hb2⟩
      go_wp2
      go_ret2; exact ⟨by rw [HM.out]; rfl, below_step hb1 hb2⟩

/-! ### weights -/
noncomputable def weightsM (p : Int) (xs : List Int) (n : Nat) : List Int := (List.range n).map fun i => weightM p (xs.getD i 0) 0 (xs.eraseIdx i)
noncomputable def weightsOM (p : Int) (xs : List Int) : Option (List Int) := if holdB p xs (List.replicate xs.length 0) then some (weightsM p xs xs.length) else none
theorem weightsM_snoc (p : Int) (xs : List Int) (n : Nat) : weightsM p xs (n + 1) = weightsM p xs n ++ [weightM p (xs.getD n 0) 0 (xs.eraseIdx n)] := by unfold weightsM; rw [List.range_succ, List.map_append]; rfl
theorem weightsM_length (p : Int) (xs : List Int) (n : Nat) : (weightsM p xs n).length = n := by simp [weightsM]
theorem weightsOM_len (p : Int) (xs : List Int) : ((weightsOM p xs).getD []).length ≤ xs.length := by
  unfold weightsOM; split
  · simp [weightsM_length]
  · simp
/-- A single share of 1. -/
theorem at_unit {p : Int} (hp : 1 < p) {xs : List Int} {i : Nat} (hi : i < xs.length) (x : Int) : atM p xs ((List.replicate xs.length 0).set i 1) x = weightM p (xs.getD i 0) x (xs.eraseIdx i) := by
  have hw := weightM_bd hp (xs.getD i 0) x (xs.eraseIdx i)
  have h := sum_one (p := p) (fun j => ((List.replicate xs.length 0).set i 1).getD j 0 * weightM p (xs.getD j 0) x (xs.eraseIdx j)) i (weightM p (xs.getD i 0) x (xs.eraseIdx i)) ?_ ?_ xs.length
  · rw [if_pos hi] at h
    have e : atM p xs ((List.replicate xs.length 0).set i 1) x = (List.range xs.length).foldl (fun s j => (s + ((List.replicate xs.length 0).set i 1).getD j 0 * weightM p (xs.getD j 0) x (xs.eraseIdx j)) % p) 0 := by
      unfold atM; rw [List.length_set, List.length_replicate]
    rw [← e] at h
    exact h.eqOf (atM_bd (by omega) _ _ _) hw
  · have e : ((List.replicate xs.length (0 : Int)).set i 1).getD i 0 = 1 := getD_some (by rw [List.getElem?_set_self (by simpa using hi)])
    simp only [e]
    exact Cg.of (by simp)
  · intro j hj
    have e : ((List.replicate xs.length (0 : Int)).set i 1).getD j 0 = 0 := by
      simp only [List.getD]
      rw [List.getElem?_set_ne (fun h => hj h.symm), List.getElem?_replicate]
      split <;> rfl
    simp only [e]
    exact Cg.of (by simp)
set_option maxRecDepth 100000 in
set_option maxHeartbeats 2000000 in
theorem c_impl_LagrangeWeights {vx : Value} {xs : List Int} {p : Int} {w : World} (hx : Ints w vx xs) (hlx : xs.length ≤ 2097152) :
    Calls Try.prog 60 #[.int .i64 p, vx] w (RetIB w (weightsOM p xs)) := by
  have HX := Lib.hid hx
  obtain ⟨A, c, rfl, hlc, hcm, hrd⟩ := hx
  obtain ⟨i0, hi0, hz0, hz1, hz2⟩ := info_parts info_int
  unfold maxLen at hcm
  rcases hP : holdB p xs (List.replicate xs.length 0) with _ | _
  · have HM := Lib.hid (show weightsOM p xs = none by unfold weightsOM; rw [hP]; rfl)
    go_enter Try.func60, Try.ntmps60
    go_wp2_with (at_make; refine wpList_make_full _ rfl _ _ 32 rfl w.heap.size 3 i0 (.int .i64 0) 1 Try.underlying32 hi0 hz0 hz1 _ _ _ _ xs.length rfl rfl rfl rfl (by rw [hz2]; omega) (by unfold maxLen; omega) (Nat.le_refl _) ?_; intro w1 hown hg; have HZ := Lib.hid (own_made hown); have hb1 : Below w.heap.size w w1 := ((Below.refl _ _).grown hg (Nat.le_refl _) (by simp)); clear hown hg)
    refine (c_impl_areHolders (HX.out.below hb1) HZ.out.ints hlx (by simp; omega)).mono ?_
    rintro e w2 ⟨rfl, hb2⟩
    go_wp2
    go_ret2; rw [HM.out]; exact RetIB.no_below (below_step hb1 hb2)
  · have HM := Lib.hid (show weightsOM p xs = some (weightsM p xs xs.length) by unfold weightsOM; rw [hP]; rfl)
    obtain ⟨hpr, hpb, hxb, hyb, hlen, hll, hnd⟩ := ptsB_of (holdB_of hP).1
    have HXB := Lib.hid hxb
    clear hpr hxb hyb hll hnd
    go_enter Try.func60, Try.ntmps60
    go_wp2_with (at_make; refine wpList_make_full _ rfl _ _ 32 rfl w.heap.size 3 i0 (.int .i64 0) 1 Try.underlying32 hi0 hz0 hz1 _ _ _ _ xs.length rfl rfl rfl rfl (by rw [hz2]; omega) (by unfold maxLen; omega) (Nat.le_refl _) ?_; intro w1 hown hg; have HZ := Lib.hid (own_made hown); have hb1 : Below w.heap.size w w1 := ((Below.refl _ _).grown hg (Nat.le_refl _) (by simp)); clear hown hg)
    refine (c_impl_areHolders (HX.out.below hb1) HZ.out.ints hlx (by simp; omega)).mono ?_
    rintro e w2 ⟨rfl, hb2⟩
    have HZ2 := Lib.hid (HZ.out.below hb2)
    have HB2 := Lib.hid (below_step hb1 hb2)
    have hz2' : w.heap.size < w2.heap.size := HZ2.out.lt _ rfl
    clear hb1 hb2
    go_wp2
    go_loopw [7, 20] (fun o i wr => ∃ k : Nat, k ≤ xs.length ∧ i = .int .i64 k ∧ Hid (OwnI wr (w.heap.size + 1) o (weightsM p xs k)) ∧ Hid (OwnI wr w.heap.size (.slice (some ⟨w.heap.size, 0, none⟩) xs.length xs.length) (List.replicate xs.length 0)) ∧ Hid (Below w.heap.size w wr)) (fun _ i _ => xs.length - (intOf i).toNat)
    case atStart => exact ⟨0, Nat.zero_le _, rfl, Lib.hid (OwnI.empty hz2'), Lib.hid (HZ2.out.alloc _), Lib.hid (HB2.out.alloc (Nat.le_of_lt hz2') _)⟩
    case round =>
      obtain ⟨k, hk, rfl, HO, HZ, HB⟩ := hrel
      have hk0 : (0 : Int) ≤ (k : Int) := Int.natCast_nonneg _
      by_cases hlt : k < xs.length
      · obtain ⟨wa, rfl⟩ : ∃ W, W = wr := ⟨wr, rfl⟩
        have hlk : (k : Int) < (xs.length : Int) := by omega
        obtain ⟨Ao, co, rfl, hlo, hmo, -⟩ := own_form HO.out
        have hf1 := HZ.out.free k
        obtain ⟨z, hz⟩ : ∃ z, wa.cell? ⟨w.heap.size, k, none⟩ = some (.int .i64 z) := ⟨0, HZ.out.rd (by rw [List.getElem?_replicate, if_pos hlt])⟩
        have HZ1 := Lib.hid (HZ.out.put k 1)
        have HO1 := Lib.hid (HO.out.far (p := ⟨w.heap.size, k, none⟩) (fun g hg => by have := own_ge HO.out g hg; simp; omega) (.int .i64 1))
        have HB1 := Lib.hid (HB.out.setCell (p := ⟨w.heap.size, k, none⟩) (Nat.le_refl _) (.int .i64 1))
        obtain ⟨wb, hwb⟩ : ∃ W, wa.setCell ⟨w.heap.size, k, none⟩ (.int .i64 1) = W := ⟨_, rfl⟩
        rw [hwb] at HZ1 HO1 HB1
        have HYB := Lib.hid (show ∀ y ∈ (List.replicate xs.length (0 : Int)).set k 1, 0 ≤ y ∧ y < p from fun y hy => by
          rcases List.mem_or_eq_of_mem_set hy with h | h
          · have := (List.mem_replicate.1 h).2; omega
          · omega)
        have HLL := Lib.hid (show xs.length = ((List.replicate xs.length (0 : Int)).set k 1).length by simp)
        have HEV := Lib.hid ((eval_poly (p := p) (by omega) HLL.out 0).trans (at_unit (by omega) hlt 0))
        have HPB := Lib.hid (polyM_bd (p := p) (by omega) xs ((List.replicate xs.length (0 : Int)).set k 1))
        have HPL := Lib.hid (show (polyM p xs ((List.replicate xs.length (0 : Int)).set k 1)).length ≤ 1048576 by rw [polyM_length]; omega)
        have HRS := Lib.hid (show ((List.replicate xs.length (0 : Int)).set k 1).set k 0 = List.replicate xs.length 0 by
          rw [List.set_set]; refine List.ext_getElem? fun j => ?_
          by_cases hj : k = j
          · subst hj; rw [List.getElem?_set_self (by simpa using hlt), List.getElem?_replicate, if_pos hlt]
          · rw [List.getElem?_set_ne hj])
        generalize (List.replicate xs.length (0 : Int)).set k 1 = Y at *
        have HWL := Lib.hid (weightsM_length p xs k)
        have HSN := Lib.hid (weightsM_snoc p xs k)
        have hwl : (weightsM p xs k).length ≤ 12 := by rw [HWL.out]; omega
        generalize hWS : weightsM p xs k = Wk at *
        generalize weightM p (xs.getD k 0) 0 (xs.eraseIdx k) = E at *
        go_wp2_with fail
        refine (c_impl_polyThrough (HX.out.below HB1.out) HZ1.out.ints (by omega) HLL.out hpb HXB.out HYB.out).mono ?_
        rintro e w3 ⟨u, rfl, hu, hb3⟩
        have HU := Lib.hid hu.ints
        have HZ3 := Lib.hid (HZ1.out.below hb3)
        have HO3 := Lib.hid (HO1.out.below hb3)
        have HB3 := Lib.hid (below_step HB1.out hb3)
        have hz3 : w.heap.size + 1 ≤ w3.heap.size := by have := HZ3.out.blk; omega
        clear hu hb3 hwb
        go_wp2_with fail
        refine (c_impl_evalPoly HU.out HPL.out (by omega) (fun z hz => by have := HPB.out z hz; omega) (by omega)).mono ?_
        rintro e w4 ⟨rfl, rfl⟩
        rw [HEV.out]
        go_wp2_with (at_builtin; refine wp_app1 (B := w.heap.size + 1) rfl rfl Try.underlying32 info_int rfl HO3.out rfl rfl rfl (by unfold maxLen; omega) (by omega) hz3 ?_; intro v' w9 ho hg hfr; have HO9 := Lib.hid (OwnI.snoc ho); have HZ9 := Lib.hid (HZ3.out.grown hg (fun g hg' e => by have h1 := own_ge HO3.out _ e.symm; simp [Value.ownBlock] at hg'; omega)); have HB9 := Lib.hid (HB3.out.grown hg HB3.out.size (fun g hg' => by have := own_ge HO3.out g hg'; omega)); have hf9 := HZ9.out.free k; have hz9 : ∃ z, w9.cell? ⟨w.heap.size, k, none⟩ = some (.int .i64 z) := ⟨Y[k]'(by have := HLL.out; omega), HZ9.out.rd (List.getElem?_eq_getElem _)⟩; obtain ⟨z9, hz9⟩ := hz9; clear ho hg hfr)
        go_roundw
        case rel => exact ⟨k + 1, by omega, by go_num, by rw [HSN.out]; exact Lib.hid (HO9.out.far (p := ⟨w.heap.size, k, none⟩) (fun g hg => by have := own_ge HO9.out g hg; simp; omega) _), by rw [← HRS.out]; exact Lib.hid (HZ9.out.put k 0), Lib.hid (HB9.out.setCell (p := ⟨w.heap.size, k, none⟩) (Nat.le_refl _) _)⟩
        case measure => simp [intOf]; omega
      · have HE := Lib.hid (show k = xs.length by omega)
        go_wp2
        go_ret2
        rw [HM.out]
        exact RetIB.yes (by have := HO.out; rw [HE.out] at this; exact this.mono (by omega)) HB.out
set_option maxRecDepth 100000 in
set_option maxHeartbeats 2000000 in
theorem c_spec_LagrangeWeights {vx : Value} {xs : List Int} {p : Int} {w : World} (hx : Ints w vx xs) (hlx : xs.length ≤ 2097152) :
    Calls Try.prog 61 #[.int .i64 p, vx] w (RetIB w (weightsOM p xs)) := by
  have HX := Lib.hid hx
  obtain ⟨A, c, rfl, hlc, hcm, hrd⟩ := hx
  obtain ⟨i0, hi0, hz0, hz1, hz2⟩ := info_parts info_int
  unfold maxLen at hcm
  rcases hP : holdB p xs (List.replicate xs.length 0) with _ | _
  · have HM := Lib.hid (show weightsOM p xs = none by unfold weightsOM; rw [hP]; rfl)
    go_enter Try.func61, Try.ntmps61
    go_wp2_with (at_make; refine wpList_make_full _ rfl _ _ 32 rfl w.heap.size 3 i0 (.int .i64 0) 1 Try.underlying32 hi0 hz0 hz1 _ _ _ _ xs.length rfl rfl rfl rfl (by rw [hz2]; omega) (by unfold maxLen; omega) (Nat.le_refl _) ?_; intro w1 hown hg; have HZ := Lib.hid (own_made hown); have hb1 : Below w.heap.size w w1 := ((Below.refl _ _).grown hg (Nat.le_refl _) (by simp)); clear hown hg)
    refine (c_spec_thGood (HX.out.below hb1) HZ.out.ints hlx (by simp; omega)).mono ?_
    rintro e w2 ⟨rfl, hb2⟩
    go_wp2
    go_ret2; rw [HM.out]; exact RetIB.no_below (below_step hb1 hb2)
  · have HM := Lib.hid (show weightsOM p xs = some (weightsM p xs xs.length) by unfold weightsOM; rw [hP]; rfl)
    obtain ⟨hpr, hpb, hxb, hyb, hlen, hll, hnd⟩ := ptsB_of (holdB_of hP).1
    have HXB := Lib.hid hxb
    clear hpr hxb hyb hll hnd
    go_enter Try.func61, Try.ntmps61
    go_wp2_with (at_make; refine wpList_make_full _ rfl _ _ 32 rfl w.heap.size 3 i0 (.int .i64 0) 1 Try.underlying32 hi0 hz0 hz1 _ _ _ _ xs.length rfl rfl rfl rfl (by rw [hz2]; omega) (by unfold maxLen; omega) (Nat.le_refl _) ?_; intro w1 hown hg; have HZ := Lib.hid (own_made hown); have hb1 : Below w.heap.size w w1 := ((Below.refl _ _).grown hg (Nat.le_refl _) (by simp)); clear hown hg)
    refine (c_spec_thGood (HX.out.below hb1) HZ.out.ints hlx (by simp; omega)).mono ?_
    rintro e w2 ⟨rfl, hb2⟩
    have HB2 := Lib.hid (below_step hb1 hb2)
    clear hb1 hb2 HZ
    go_wp2
    go_loopw [6, 17] (fun o i wr => ∃ k : Nat, k ≤ xs.length ∧ i = .int .i64 k ∧ Hid (OwnI wr w.heap.size o (weightsM p xs k)) ∧ Hid (Below w.heap.size w wr)) (fun _ i _ => xs.length - (intOf i).toNat)
    case atStart => exact ⟨0, Nat.zero_le _, rfl, Lib.hid (OwnI.nil _ _), HB2⟩
    case round =>
      obtain ⟨k, hk, rfl, HO, HB⟩ := hrel
      have hk0 : (0 : Int) ≤ (k : Int) := Int.natCast_nonneg _
      by_cases hlt : k < xs.length
      · obtain ⟨wa, rfl⟩ : ∃ W, W = wr := ⟨wr, rfl⟩
        obtain ⟨Ao, co, rfl, hlo, hmo, -⟩ := own_form HO.out
        have HWL := Lib.hid (weightsM_length p xs k)
        have HSN := Lib.hid (weightsM_snoc p xs k)
        have hwl : (weightsM p xs k).length ≤ 12 := by rw [HWL.out]; omega
        have HC := Lib.hid (fun W (h : Below w.heap.size w W) => c_spec_fpWeight (i := k) (x := 0) (HX.out.below h) hlx hlt hpb HXB.out (by omega))
        generalize hWS : weightsM p xs k = Wk at *
        generalize weightM p (xs.getD k 0) 0 (xs.eraseIdx k) = E at *
        go_wp2_with fail
        refine (HC.out _ HB.out).mono ?_
        rintro e w3 ⟨rfl, hb3⟩
        have HO3 := Lib.hid (HO.out.below hb3)
        have HB3 := Lib.hid (below_step HB.out hb3)
        have hz3 := HB3.out.size
        clear hb3
        go_wp2_with (at_builtin; refine wp_app1 (B := w.heap.size) rfl rfl Try.underlying32 info_int rfl HO3.out rfl rfl rfl (by unfold maxLen; omega) (by omega) hz3 ?_; intro v' w9 ho hg hfr; have HO9 := Lib.hid (OwnI.snoc ho); have HB9 := Lib.hid (below_app HB3.out HO3.out hg (Nat.le_refl _)); clear ho hg hfr)
        go_roundw
        case rel => exact ⟨k + 1, by omega, by go_num, by rw [HSN.out]; exact HO9, HB9⟩
        case measure => simp [intOf]; omega
      · have HE := Lib.hid (show k = xs.length by omega)
        go_wp2
        go_ret2
        rw [HM.out]
        exact RetIB.yes (by have := HO.out; rw [HE.out] at this; exact this) HB.out
end Go.Proofs.Ytmccfdaaneemfaa
