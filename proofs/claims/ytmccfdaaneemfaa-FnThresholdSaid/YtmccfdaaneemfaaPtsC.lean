/- Contracts of lists of points and of weights, the reference's. Conditions: the lists are short, the numbers elements of the field. -/
import Derived.Test.YtmccfdaaneemfaaPtsB
import Derived.Deep.RegionWith
namespace Go.Proofs.Ytmccfdaaneemfaa
open Go.RowKit
set_option linter.unusedVariables false

theorem ptsB_met (p : Int) (xs ys : List Int) : ptsB p xs ys = (fldB p && allB xs 0 (p - 1) && allB ys 0 (p - 1) && ((xs.length : Int) == (ys.length : Int)) && (((metM xs).length : Int) == (xs.length : Int)) && decide ((xs.length : Int) ≤ 12)) := by
  have h := (metM_inv xs).2.2.2
  have h2 : (((metM xs).length : Int) == (xs.length : Int)) = decide xs.Nodup := by
    by_cases hn : xs.Nodup
    · rw [decide_eq_true hn, h.2 hn]; simp
    · rw [decide_eq_false hn]
      have : ¬ (metM xs).length = xs.length := fun e => hn (h.1 e)
      rw [beq_eq_false_iff_ne]; omega
  have h3 : ((xs.length : Int) == (ys.length : Int)) = decide ((xs.length : Int) = (ys.length : Int)) := by
    by_cases he : (xs.length : Int) = (ys.length : Int)
    · rw [decide_eq_true he]; exact beq_iff_eq.2 he
    · rw [decide_eq_false he]; exact beq_eq_false_iff_ne.2 he
  rw [h2, h3]
  unfold ptsB fpInB
  cases fldB p <;> cases allB xs 0 (p - 1) <;> cases allB ys 0 (p - 1) <;> cases decide ((xs.length : Int) = (ys.length : Int)) <;> cases decide ((xs.length : Int) ≤ 12) <;> simp
set_option maxRecDepth 100000 in
set_option maxHeartbeats 1000000 in
theorem c_spec_fpPoints {vx vy : Value} {xs ys : List Int} {p : Int} {w : World} (hx : Ints w vx xs) (hy : Ints w vy ys) (hlx : xs.length ≤ 2097152) (hly : ys.length ≤ 2097152) :
    Calls Try.prog 143 #[.int .i64 p, vx, vy] w fun e w' => e = .returned (.bool (ptsB p xs ys)) ∧ Below w.heap.size w w' := by
  have HX := Lib.hid hx
  have HY := Lib.hid hy
  obtain ⟨A, c, rfl, -, -, hrd⟩ := hx
  obtain ⟨A', c', rfl, -⟩ := hy
  have HP := Lib.hid (ptsB_met p xs ys)
  go_enter Try.func143, Try.ntmps143
  go_wp2
  go_loopw [7, 12] (fun m i wr => ∃ k : Nat, k ≤ xs.length ∧ i = .int .i64 k ∧ Hid (Ints wr m (metM (xs.take k))) ∧ Hid (Below w.heap.size w wr)) (fun _ i _ => xs.length - (intOf i).toNat)
  case atStart => exact ⟨0, Nat.zero_le _, rfl, Lib.hid (Ints.nil _), Lib.hid (Below.refl _ _)⟩
  case round =>
    obtain ⟨k, hk, rfl, HM, HB⟩ := hrel
    obtain ⟨Am, cm, rfl, -⟩ := HM.out
    by_cases hlt : k < xs.length
    · obtain ⟨b, o, x, rfl, hbl, hxk, hcell⟩ := (hrd.below HB.out).int_at hlt
      have HT := Lib.hid (take_snoc hxk)
      have hml := (metM_inv (xs.take k)).2.2.1
      have hml2 : (metM (xs.take k)).length ≤ 2097152 := by simp at hml; omega
      clear hxk hml
      go_wp2_with fail
      refine (c_spec_l1Put HM.out hml2).mono ?_
      rintro e w1 ⟨u, rfl, hu, hb1⟩
      go_wp2
      go_roundw
      case rel => exact ⟨k + 1, by omega, by go_num, by rw [HT.out, show metM (xs.take k ++ [x]) = putR (metM (xs.take k)) x by simp [metM]]; exact Lib.hid hu, Lib.hid (below_step HB.out hb1)⟩
      case measure => simp [intOf]; omega
    · obtain rfl : k = xs.length := by omega
      rw [List.take_length]
      clear hrd hlt hk
      generalize (metM xs).length = ml at HP ⊢
      rcases hf : fldB p with _ | _
      · go_wp2_with (first | (go_at_call 71; refine (k_spec_fpGood).mono ?_; rintro e w' ⟨rfl, rfl⟩) | (go_at_call_of 123 (Value.slice A xs.length c); refine (c_spec_l1All (HX.out.below HB.out) hlx).mono ?_; rintro e w' ⟨rfl, rfl⟩) | (go_at_call_of 123 (Value.slice A' ys.length c'); refine (c_spec_l1All (HY.out.below HB.out) hly).mono ?_; rintro e w' ⟨rfl, rfl⟩))
        go_ret; exact ⟨by rw [HP.out]; simp [*], HB.out⟩
      have hpb := fldB_bd hf
      rcases ha : allB xs 0 (p - 1) with _ | _
      · go_wp2_with (first | (go_at_call 71; refine (k_spec_fpGood).mono ?_; rintro e w' ⟨rfl, rfl⟩) | (go_at_call_of 123 (Value.slice A xs.length c); refine (c_spec_l1All (HX.out.below HB.out) hlx).mono ?_; rintro e w' ⟨rfl, rfl⟩) | (go_at_call_of 123 (Value.slice A' ys.length c'); refine (c_spec_l1All (HY.out.below HB.out) hly).mono ?_; rintro e w' ⟨rfl, rfl⟩))
        go_ret; exact ⟨by rw [HP.out]; simp [*], HB.out⟩
      rcases hb : allB ys 0 (p - 1) with _ | _
      · go_wp2_with (first | (go_at_call 71; refine (k_spec_fpGood).mono ?_; rintro e w' ⟨rfl, rfl⟩) | (go_at_call_of 123 (Value.slice A xs.length c); refine (c_spec_l1All (HX.out.below HB.out) hlx).mono ?_; rintro e w' ⟨rfl, rfl⟩) | (go_at_call_of 123 (Value.slice A' ys.length c'); refine (c_spec_l1All (HY.out.below HB.out) hly).mono ?_; rintro e w' ⟨rfl, rfl⟩))
        go_ret; exact ⟨by rw [HP.out]; simp [*], HB.out⟩
      rcases hc : ((xs.length : Int) == (ys.length : Int)) with _ | _
      · go_wp2_with (first | (go_at_call 71; refine (k_spec_fpGood).mono ?_; rintro e w' ⟨rfl, rfl⟩) | (go_at_call_of 123 (Value.slice A xs.length c); refine (c_spec_l1All (HX.out.below HB.out) hlx).mono ?_; rintro e w' ⟨rfl, rfl⟩) | (go_at_call_of 123 (Value.slice A' ys.length c'); refine (c_spec_l1All (HY.out.below HB.out) hly).mono ?_; rintro e w' ⟨rfl, rfl⟩))
        go_ret; exact ⟨by rw [HP.out]; simp [*], HB.out⟩
      rcases hd : ((ml : Int) == (xs.length : Int)) with _ | _
      · go_wp2_with (first | (go_at_call 71; refine (k_spec_fpGood).mono ?_; rintro e w' ⟨rfl, rfl⟩) | (go_at_call_of 123 (Value.slice A xs.length c); refine (c_spec_l1All (HX.out.below HB.out) hlx).mono ?_; rintro e w' ⟨rfl, rfl⟩) | (go_at_call_of 123 (Value.slice A' ys.length c'); refine (c_spec_l1All (HY.out.below HB.out) hly).mono ?_; rintro e w' ⟨rfl, rfl⟩))
        go_ret; exact ⟨by rw [HP.out]; simp [*], HB.out⟩
      by_cases he : (xs.length : Int) ≤ 12
      · go_wp2_with (first | (go_at_call 71; refine (k_spec_fpGood).mono ?_; rintro e w' ⟨rfl, rfl⟩) | (go_at_call_of 123 (Value.slice A xs.length c); refine (c_spec_l1All (HX.out.below HB.out) hlx).mono ?_; rintro e w' ⟨rfl, rfl⟩) | (go_at_call_of 123 (Value.slice A' ys.length c'); refine (c_spec_l1All (HY.out.below HB.out) hly).mono ?_; rintro e w' ⟨rfl, rfl⟩))
        go_ret; exact ⟨by rw [HP.out]; simp [*], HB.out⟩
      · go_wp2_with (first | (go_at_call 71; refine (k_spec_fpGood).mono ?_; rintro e w' ⟨rfl, rfl⟩) | (go_at_call_of 123 (Value.slice A xs.length c); refine (c_spec_l1All (HX.out.below HB.out) hlx).mono ?_; rintro e w' ⟨rfl, rfl⟩) | (go_at_call_of 123 (Value.slice A' ys.length c'); refine (c_spec_l1All (HY.out.below HB.out) hly).mono ?_; rintro e w' ⟨rfl, rfl⟩))
        go_ret; exact ⟨by rw [HP.out]; simp [*], HB.out⟩
/-- The other numbers of a list, so far. -/
theorem others_step {xs : List Int} {k i : Nat} {x : Int} (hx : xs[k]? = some x) : (xs.take (k + 1)).eraseIdx i = if k = i then (xs.take k).eraseIdx i else (xs.take k).eraseIdx i ++ [x] := by
  have hk : k < xs.length := (List.getElem?_eq_some_iff.1 hx).1
  have hl : (xs.take k).length = k := by simp; omega
  rw [take_snoc hx]
  split
  · rename_i h
    rw [List.eraseIdx_append_of_length_le (l := xs.take k) (k := i) (by omega), hl, List.eraseIdx_of_length_le (l := xs.take k) (by omega), h]; simp
  · rename_i h
    rcases Nat.lt_or_gt_of_ne h with h1 | h1
    · rw [List.eraseIdx_append_of_length_le (l := xs.take k) (k := i) (by omega), List.eraseIdx_of_length_le (l := xs.take k) (by omega), List.eraseIdx_of_length_le (l := [x]) (by simp; omega)]
    · rw [List.eraseIdx_append_of_lt_length (l := xs.take k) (k := i) (by omega)]
theorem weightM_snoc (p xi x : Int) (os : List Int) (y : Int) : weightM p xi x (os ++ [y]) = weightM p xi x os * ((x - y) % p) % p * invM p ((xi - y) % p) % p := by simp [weightM]
set_option maxRecDepth 100000 in
set_option maxHeartbeats 1000000 in
theorem c_spec_fpWeight {vx : Value} {xs : List Int} {p x : Int} {i : Nat} {w : World} (hx : Ints w vx xs) (hlx : xs.length ≤ 2097152) (hi : i < xs.length) (hp : 2 ≤ p ∧ p ≤ 251) (hb : ∀ x ∈ xs, 0 ≤ x ∧ x < p) (h0 : 0 ≤ x ∧ x ≤ 3000) :
    Calls Try.prog 119 #[.int .i64 p, vx, .int .i64 i, .int .i64 x] w fun e w' => e = .returned (.int .i64 (weightM p (xs.getD i 0) x (xs.eraseIdx i))) ∧ Below w.heap.size w w' := by
  obtain ⟨A, c, rfl, hlc, hcm, hrd⟩ := hx
  have hp0 : ¬ p = 0 := by omega
  have HBD := Lib.hid hb
  clear hb
  obtain ⟨bi, oi, xi, rfl, hbi, hxi, hci⟩ := hrd.int_at hi
  have hxib := HBD.out xi (List.mem_of_getElem? hxi)
  have HG := Lib.hid (show xs.getD i 0 = xi from getD_some hxi)
  rw [HG.out]
  clear hxi
  have hi0 : (0 : Int) ≤ (i : Int) := Int.natCast_nonneg _
  go_enter Try.func119, Try.ntmps119
  go_wp2
  go_loopw [9, 14] (fun o j wr => ∃ k : Nat, k ≤ xs.length ∧ j = .int .i64 k ∧ o = .int .i64 (weightM p xi x ((xs.take k).eraseIdx i)) ∧ Hid (Below w.heap.size w wr)) (fun _ j _ => xs.length - (intOf j).toNat)
  case atStart => exact ⟨0, Nat.zero_le _, rfl, by simp [weightM], Lib.hid (Below.refl _ _)⟩
  case round =>
    obtain ⟨k, hk, rfl, rfl, HB⟩ := hrel
    have hci2 := (HB.out.cell (p := ⟨bi, oi + i, none⟩) hbi).trans hci
    by_cases hlt : k < xs.length
    · obtain ⟨b, o, y, e, hbl, hxk, hcell⟩ := (hrd.below HB.out).int_at hlt
      injection e with e; injection e with e1 e2; subst e1 e2
      have hy := HBD.out y (List.mem_of_getElem? hxk)
      have HS := Lib.hid (others_step (i := i) hxk)
      have hwb := weightM_bd (p := p) (by omega) xi x ((xs.take k).eraseIdx i)
      clear hxk
      rcases hne : ((k : Int) != (i : Int)) with _ | _
      · have hki : k = i := by have h9 := hne; simp at h9; omega
        go_wp2
        go_roundw
        case rel => exact ⟨k + 1, by omega, by go_num, by rw [HS.out, if_pos hki], HB⟩
        case measure => simp [intOf]; omega
      · have hki : ¬ k = i := by have h9 := hne; simp at h9; omega
        have HW := Lib.hid (weightM_snoc p xi x ((xs.take k).eraseIdx i) y)
        generalize weightM p xi x ((xs.take k).eraseIdx i) = W at hwb HW ⊢
        have h1 := mod_bd (x - y) (p := p) (by omega)
        have h2 := mod_bd (xi - y) (p := p) (by omega)
        have h3 := invM_bd (p := p) (a := (xi - y) % p) (by omega)
        have HBM1 := Lib.hid (fun V => c_spec_btMod (a := x - y) (m := p) (w := V) (by omega) (by omega))
        have HBM2 := Lib.hid (fun V => c_spec_btMod (a := xi - y) (m := p) (w := V) (by omega) (by omega))
        have HIV := Lib.hid (fun V => c_spec_fpInv (p := p) (a := (xi - y) % p) (w := V) (by omega) (by omega))
        generalize (x - y) % p = m1 at *
        generalize (xi - y) % p = m2 at *
        have m3 := mul_bd hwb.1 (show W ≤ 251 by omega) h1.1 (show m1 ≤ 251 by omega)
        have h4 := mod_bd (W * m1) (p := p) (by omega)
        have m4 := mul_bd h4.1 (show W * m1 % p ≤ 251 by omega) h3.1 (show invM p m2 ≤ 251 by omega)
        have e1 : IntKind.i64.wrap (x - y) = x - y := IntWalk.i64_in _ (by omega)
        have e2 : IntKind.i64.wrap (xi - y) = xi - y := IntWalk.i64_in _ (by omega)
        have e3 : IntKind.i64.wrap (W * m1) = W * m1 := IntWalk.i64_in _ (by omega)
        have e4 : IntKind.i64.wrap (W * m1 % p * invM p m2) = W * m1 % p * invM p m2 := IntWalk.i64_in _ (by omega)
        go_wp2_with fail
        go_quiet ((first | (go_at_call_of 128 (Value.int IntKind.i64 (x - y)); exact quiet_left (HBM1.out _)) | (go_at_call_of 128 (Value.int IntKind.i64 (xi - y)); exact quiet_left (HBM2.out _)) | (go_at_call 69; exact quiet_left (HIV.out _))))
        go_wp2
        go_roundw
        case rel => exact ⟨k + 1, by omega, by go_num, by rw [HS.out, if_neg hki, HW.out], Lib.hid (below_drewN HB.out _)⟩
        case measure => simp [intOf]; omega
    · have HE := Lib.hid (show xs.take k = xs from List.take_of_length_le (by omega))
      go_wp2
      go_ret
      exact ⟨by rw [HE.out]; rfl, HB.out⟩
set_option maxRecDepth 100000 in
set_option maxHeartbeats 1000000 in
theorem c_spec_fpAt {vx vy : Value} {xs ys : List Int} {p x : Int} {w : World} (hx : Ints w vx xs) (hy : Ints w vy ys) (hlx : xs.length ≤ 2097152) (hl : xs.length = ys.length) (hp : 2 ≤ p ∧ p ≤ 251) (hb : ∀ x ∈ xs, 0 ≤ x ∧ x < p) (hby : ∀ y ∈ ys, 0 ≤ y ∧ y < p) (h0 : 0 ≤ x ∧ x ≤ 3000) :
    Calls Try.prog 118 #[.int .i64 p, vx, vy, .int .i64 x] w fun e w' => e = .returned (.int .i64 (atM p xs ys x)) ∧ Below w.heap.size w w' := by
  have HX := Lib.hid hx
  obtain ⟨A, c, rfl, -⟩ := hx
  obtain ⟨A', c', rfl, hlc, hcm, hrd⟩ := hy
  have hp0 : ¬ p = 0 := by omega
  have HL := Lib.hid hl
  have hly : ys.length ≤ 2097152 := by omega
  have HBX := Lib.hid hb
  have HBY := Lib.hid hby
  clear hb hby hl
  go_enter Try.func118, Try.ntmps118
  go_wp2
  go_loopw [9, 14] (fun o j wr => ∃ (k : Nat) (s : Int), k ≤ ys.length ∧ j = .int .i64 k ∧ o = .int .i64 s ∧ (0 ≤ s ∧ s < p) ∧ Hid ((List.range k).foldl (fun s i => (s + ys.getD i 0 * weightM p (xs.getD i 0) x (xs.eraseIdx i)) % p) 0 = s) ∧ Hid (Below w.heap.size w wr)) (fun _ j _ => ys.length - (intOf j).toNat)
  case atStart => exact ⟨0, 0, Nat.zero_le _, rfl, rfl, by omega, Lib.hid rfl, Lib.hid (Below.refl _ _)⟩
  case round =>
    obtain ⟨k, s, hk, rfl, rfl, hs, HS, HB⟩ := hrel
    by_cases hlt : k < ys.length
    · obtain ⟨b, o, y, rfl, hbl, hyk, hcell⟩ := (hrd.below HB.out).int_at hlt
      have hyb := HBY.out y (List.mem_of_getElem? hyk)
      have HG := Lib.hid (show ys.getD k 0 = y from getD_some hyk)
      clear hyk
      have hwb := weightM_bd (p := p) (by omega) (xs.getD k 0) x (xs.eraseIdx k)
      have m1 := mul_bd hyb.1 (show y ≤ 251 by omega) hwb.1 (show weightM p (xs.getD k 0) x (xs.eraseIdx k) ≤ 251 by omega)
      have HN := Lib.hid (show (List.range (k + 1)).foldl (fun s i => (s + ys.getD i 0 * weightM p (xs.getD i 0) x (xs.eraseIdx i)) % p) 0 = (s + y * weightM p (xs.getD k 0) x (xs.eraseIdx k)) % p by
        rw [List.range_succ, List.foldl_append, HS.out]; simp only [List.foldl_cons, List.foldl_nil, HG.out])
      have HC := Lib.hid (fun V (h : Below w.heap.size w V) => c_spec_fpWeight (i := k) (x := x) (HX.out.below h) hlx (by have := HL.out; omega) hp HBX.out h0)
      generalize weightM p (xs.getD k 0) x (xs.eraseIdx k) = W at *
      go_wp2_with fail
      refine (HC.out _ HB.out).mono ?_
      rintro e w1 ⟨rfl, hb1⟩
      go_wp2
      go_roundw
      case rel => exact ⟨k + 1, _, by omega, by go_num, rfl, mod_bd _ (by omega), HN, Lib.hid (below_step HB.out hb1)⟩
      case measure => simp [intOf]; omega
    · obtain rfl : k = ys.length := by omega
      go_wp2
      go_ret
      exact ⟨by rw [← HS.out]; rfl, HB.out⟩
end Go.Proofs.Ytmccfdaaneemfaa
