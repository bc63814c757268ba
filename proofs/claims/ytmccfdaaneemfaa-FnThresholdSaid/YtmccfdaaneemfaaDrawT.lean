/- Contracts of the draws of holders' laws, and of the reference's SplitThreshold. Conditions: the bytes read as bytes. -/
import Derived.Test.YtmccfdaaneemfaaHeld
import Derived.Test.YtmccfdaaneemfaaRefB
namespace Go.Proofs.Ytmccfdaaneemfaa
open Go.RowKit
set_option linter.unusedVariables false
set_option maxHeartbeats 1000000
section
variable {w : World} {cd : Value} {l0 : List Int}
theorem c_spec_DrawSplitThreshold (h : Byts w cd l0) : Calls Try.prog 54 #[cd] w fun e w' => (∃ p k v n t : Int, e = .returned (.tuple #[.int .i64 p, .int .i64 k, .int .i64 v, .int .i64 n, .int .i64 t])) ∧ Below w.heap.size w w' := by
  obtain ⟨A0, c0, rfl⟩ := h.form
  replace h := cur_new h
  go_enter Try.func54, Try.ntmps54
  go_wp2_with fail
  refine (c_anyPrime h (by omega)).mono ?_
  rintro e w1 ⟨v, rfl, ⟨p, rfl, hp0, hp1⟩, hc1, hg1⟩
  replace hg1 := Lib.hid hg1
  clear h
  go_wp2_with fail
  refine (c_pick hc1 (by omega) (by omega)).mono ?_
  rintro e w2 ⟨v, rfl, ⟨n, rfl, hn0, -, hn1⟩, hc2, hg2⟩
  replace hg2 := Lib.hid (only_trans hg1.out hg2)
  clear hc1 hg1
  go_wp2_with fail
  refine (c_pick hc2 (by omega) (by omega)).mono ?_
  rintro e w3 ⟨v, rfl, ⟨k1, rfl, hk0, -, hk1⟩, hc3, hg3⟩
  replace hg3 := Lib.hid (only_trans hg2.out hg3)
  clear hc2 hg2
  go_wp2_with fail
  refine (c_pick hc3 (by omega) (by omega)).mono ?_
  rintro e w4 ⟨v, rfl, ⟨k2, rfl, hj0, -, hj1⟩, hc4, hg4⟩
  replace hg4 := Lib.hid (only_trans hg3.out hg4)
  have hgl := hc4.lt
  clear hc3 hg3
  go_wp2_with fail
  refine (c_among (l := [k1, k2, 1000000000, 1000000001]) (hc4.below ((Below.refl _ _).alloc (Nat.le_refl _) _)) (by omega) (ints_lit _ _ _ rfl (by simp)) (by simp) (by simp) (by rintro b hb; simp [Value.ownBlock] at hb; omega)).mono ?_
  rintro e w5 ⟨v, rfl, ⟨key, rfl, -⟩, hc5, hg5⟩
  replace hg5 := Lib.hid (only_trans hg4.out (only_trans (only_below ((Below.refl _ _).alloc (Nat.le_refl _) _) _) hg5))
  clear hc4 hg4 hgl
  go_wp2_with fail
  refine (c_element hc5 (by omega) (by omega)).mono ?_
  rintro e w6 ⟨v, rfl, ⟨x, rfl, hx0, hx1⟩, hc6, hg6⟩
  replace hg6 := Lib.hid (only_trans hg5.out hg6)
  clear hc5 hg5
  go_wp2_with fail
  refine (c_pick hc6 (by omega) (by omega)).mono ?_
  rintro e w7 ⟨v, rfl, ⟨t, rfl, ht0, -, ht1⟩, hc7, hg7⟩
  replace hg7 := Lib.hid (only_trans hg6.out hg7)
  clear hc6 hg6
  go_wp2_with fail
  refine (c_pick hc7 (by omega) (by omega)).mono ?_
  rintro e w8 ⟨v, rfl, ⟨s, rfl, hs0, -, hs1⟩, hc8, hg8⟩
  replace hg8 := Lib.hid (only_trans hg7.out hg8)
  clear hc7 hg7 hc8
  go_wp2
  ((try simp only [Exit.inBlock, Exit.then]); refine bodyPost_ret (results_tmp5 rfl _ _ _) rfl ?_)
  exact ⟨⟨_, _, _, _, _, rfl⟩, cur_end hg8.out⟩
theorem c_spec_DrawJoinThreshold (h : Byts w cd l0) : Calls Try.prog 57 #[cd] w fun e w' => (∃ (p : Int) (u v : Value) (xs ys : List Int), e = .returned (.tuple #[.int .i64 p, u, v]) ∧ Sm xs ∧ Sm ys ∧ Ints w' u xs ∧ Ints w' v ys) ∧ Below w.heap.size w w' := by
  obtain ⟨A0, c0, rfl⟩ := h.form
  replace h := cur_new h
  go_enter Try.func57, Try.ntmps57
  go_wp2_with fail
  refine (c_held h (by omega)).mono ?_
  rintro e w1 ⟨p, t, u, v, xs, ys, rfl, hp, sx, sy, hx, hy, hc1, hg1⟩
  have HX := Lib.hid hx.ints
  have HY := Lib.hid hy.ints
  have HS := Lib.hid (And.intro sx sy)
  replace hg1 := Lib.hid hg1
  clear h sx sy hx hy hc1
  go_wp2
  go_ret3
  exact ⟨⟨_, _, _, _, _, rfl, HS.out.1, HS.out.2, HX.out, HY.out⟩, cur_end hg1.out⟩
theorem split_spec {p key v n t : Int} : splitOM p key v n t = if hldB p n t && inB key 0 1000000000 && inB v 0 (p - 1) then some (splitN p (coefN p key v (t.toNat - 1)) n.toNat) else none := by
  unfold splitOM hldB elemB
  rcases hf : fldB p with _ | _
  · rfl
  · have hp := fldB_bd hf
    have e2 : inB n 1 (min 10 (p - 1)) = (inB n 1 10 && decide (n < p)) := by
      unfold inB
      by_cases h1 : (1 : Int) ≤ n
      · by_cases h2 : n ≤ 10
        · by_cases h3 : n < p
          · rw [decide_eq_true h1, decide_eq_true h2, decide_eq_true h3, decide_eq_true (by omega)]; rfl
          · rw [decide_eq_false h3, decide_eq_false (show ¬ n ≤ min 10 (p - 1) by omega)]; simp
        · rw [decide_eq_false h2, decide_eq_false (show ¬ n ≤ min 10 (p - 1) by omega)]; simp
      · rw [decide_eq_false h1]; simp
    rw [e2]
    cases inB v 0 (p - 1) <;> cases inB n 1 10 <;> cases decide (n < p) <;> cases inB t 1 n <;> cases inB key 0 1000000000 <;> rfl
set_option maxRecDepth 100000 in
set_option maxHeartbeats 2000000 in
theorem c_spec_SplitThreshold {p key v n t : Int} {w : World} :
    Calls Try.prog 56 #[.int .i64 p, .int .i64 key, .int .i64 v, .int .i64 n, .int .i64 t] w (RetIB w (splitOM p key v n t)) := by
  rcases h1 : hldB p n t with _ | _
  · have HM := Lib.hid (show splitOM p key v n t = none by rw [split_spec, h1]; rfl)
    go_enter Try.func56, Try.ntmps56
    go_wp2_with (go_at_call 110; refine (c_spec_thHolders).mono ?_; rintro e w' ⟨rfl, rfl⟩)
    go_ret2; rw [HM.out]; exact RetIB.no _
  · rcases h2 : inB key 0 1000000000 with _ | _
    · have HM := Lib.hid (show splitOM p key v n t = none by rw [split_spec, h1, h2]; rfl)
      go_enter Try.func56, Try.ntmps56
      go_wp2_with (first | (go_at_call 110; refine (c_spec_thHolders).mono ?_; rintro e w' ⟨rfl, rfl⟩) | (go_at_call 111; refine (c_spec_otKey).mono ?_; rintro e w' ⟨rfl, rfl⟩))
      go_ret2; rw [HM.out]; exact RetIB.no _
    · obtain ⟨hf, hp, hn1, hn2, hn3, ht1, ht2⟩ := hldB_of h1
      rcases h3 : inB v 0 (p - 1) with _ | _
      · have HM := Lib.hid (show splitOM p key v n t = none by rw [split_spec, h1, h2, h3]; rfl)
        go_enter Try.func56, Try.ntmps56
        go_wp2_with (first | (go_at_call 110; refine (c_spec_thHolders).mono ?_; rintro e w' ⟨rfl, rfl⟩) | (go_at_call 111; refine (c_spec_otKey).mono ?_; rintro e w' ⟨rfl, rfl⟩) | (go_at_call 78; refine (c_spec_l1In).mono ?_; rintro e w' ⟨rfl, rfl⟩))
        go_ret2; rw [HM.out]; exact RetIB.no _
      · have hkb := inB_bd h2
        have hvb := inB_bd h3
        obtain ⟨t', rfl⟩ := nat_of (show 0 ≤ t by omega)
        obtain ⟨n', rfl⟩ := nat_of (show 0 ≤ n by omega)
        have HM := Lib.hid (show splitOM p key v (n' : Int) (t' : Int) = some (splitN p (coefN p key v (t' - 1)) n') by rw [split_spec, h1, h2, h3, Int.toNat_natCast, Int.toNat_natCast]; rfl)
        go_enter Try.func56, Try.ntmps56
        go_wp2_with (first | (go_at_call 110; refine (c_spec_thHolders).mono ?_; rintro e w' ⟨rfl, rfl⟩) | (go_at_call 111; refine (c_spec_otKey).mono ?_; rintro e w' ⟨rfl, rfl⟩) | (go_at_call 78; refine (c_spec_l1In).mono ?_; rintro e w' ⟨rfl, rfl⟩))
        refine (c_spec_thSplit (n := n') (t := t') hp hkb (by omega) (by omega) (by omega)).mono ?_
        rintro e w1 ⟨u, rfl, hu, hb1⟩
        have HU := Lib.hid hu
        have HB1 := Lib.hid hb1
        clear hu hb1
        go_wp2
        go_ret2; rw [HM.out]; exact RetIB.yes HU.out HB1.out
end
end Go.Proofs.Ytmccfdaaneemfaa
