/- Contracts of sums of shares, and of RefreshHolders. Conditions: the lists are short. -/
import Derived.Test.YtmccfdaaneemfaaRef
import Derived.Test.YtmccfdaaneemfaaRefA
import Derived.Deep.RegionHeld3
namespace Go.Proofs.Ytmccfdaaneemfaa
open Go.RowKit
set_option linter.unusedVariables false

theorem c_spec_otKey {n : Int} {w : World} : Calls Try.prog 111 #[.int .i64 n] w fun e w' => e = .returned (.bool (inB n 0 1000000000)) ∧ w = w' := by
  go_enter Try.func111, Try.ntmps111
  go_wp2_with (go_at_call 78; refine (c_spec_l1In).mono ?_; rintro e w' ⟨rfl, rfl⟩)
  go_ret; exact ⟨rfl, rfl⟩
/-- So many holders and coefficients. -/
noncomputable def hldB (p n t : Int) : Bool := fldB p && inB n 1 10 && decide (n < p) && inB t 1 n
theorem c_spec_thHolders {p n t : Int} {w : World} : Calls Try.prog 110 #[.int .i64 p, .int .i64 n, .int .i64 t] w fun e w' => e = .returned (.bool (hldB p n t)) ∧ w = w' := by
  rcases hf : fldB p with _ | _
  · go_enter Try.func110, Try.ntmps110
    go_wp2_with (go_at_call 71; refine (k_spec_fpGood).mono ?_; rintro e w' ⟨rfl, rfl⟩)
    go_ret; exact ⟨by simp [hldB, hf], rfl⟩
  · rcases hn : inB n 1 10 with _ | _
    · go_enter Try.func110, Try.ntmps110
      go_wp2_with (first | (go_at_call 71; refine (k_spec_fpGood).mono ?_; rintro e w' ⟨rfl, rfl⟩) | (go_at_call 78; refine (c_spec_l1In).mono ?_; rintro e w' ⟨rfl, rfl⟩))
      go_ret; exact ⟨by simp [hldB, hf, hn], rfl⟩
    · by_cases hlt : n < p
      · have HM := Lib.hid (show hldB p n t = inB t 1 n by unfold hldB; rw [hf, hn, decide_eq_true hlt]; rfl)
        go_enter Try.func110, Try.ntmps110
        go_wp2_with (first | (go_at_call 71; refine (k_spec_fpGood).mono ?_; rintro e w' ⟨rfl, rfl⟩) | (go_at_call_of 78 (Value.int IntKind.i64 10); refine (c_spec_l1In).mono ?_; rintro e w' ⟨rfl, rfl⟩) | (go_at_call 78; refine (c_spec_l1In).mono ?_; rintro e w' ⟨rfl, rfl⟩))
        go_ret; exact ⟨by rw [HM.out]; rfl, rfl⟩
      · have HM := Lib.hid (show hldB p n t = false by unfold hldB; rw [decide_eq_false hlt]; simp)
        go_enter Try.func110, Try.ntmps110
        go_wp2_with (first | (go_at_call 71; refine (k_spec_fpGood).mono ?_; rintro e w' ⟨rfl, rfl⟩) | (go_at_call 78; refine (c_spec_l1In).mono ?_; rintro e w' ⟨rfl, rfl⟩))
        go_ret; exact ⟨by rw [HM.out]; rfl, rfl⟩
noncomputable def refrM (p key : Int) (ys : List Int) (t : Int) : Option (List Int) :=
  if hldB p (ys.length : Int) t && inB key 0 1000000000 && fpInB p ys then some (addM p ys (splitN p (coefN p key 0 (t.toNat - 1)) ys.length)) else none
theorem refrM_len (p key : Int) (ys : List Int) (t : Int) : ((refrM p key ys t).getD []).length ≤ ys.length := by
  unfold refrM; split
  · simp [addM]; omega
  · simp
theorem hldB_of {p n t : Int} (h : hldB p n t = true) : fldB p = true ∧ (2 ≤ p ∧ p ≤ 251) ∧ 1 ≤ n ∧ n ≤ 10 ∧ n < p ∧ 1 ≤ t ∧ t ≤ n := by
  simp only [hldB, Bool.and_eq_true, decide_eq_true_eq] at h
  obtain ⟨⟨⟨h1, h2⟩, h3⟩, h4⟩ := h
  have := inB_bd h2
  have := inB_bd h4
  exact ⟨h1, fldB_bd h1, by omega, by omega, h3, by omega, by omega⟩
theorem fpInB_mk {p : Int} {l : List Int} (hf : fldB p = true) (h : ∀ x ∈ l, 0 ≤ x ∧ x < p) : fpInB p l = true := by
  unfold fpInB allB
  rw [hf, Bool.true_and]
  exact List.all_eq_true.2 fun x hx => inB_mk (h x hx).1 (by have := (h x hx).2; omega)
/-- The shares of a value, if all is valid. -/
noncomputable def splitOM (p key v n t : Int) : Option (List Int) := if elemB p v && inB key 0 1000000000 && inB n 1 (min 10 (p - 1)) && inB t 1 n then some (splitN p (coefN p key v (t.toNat - 1)) n.toNat) else none
set_option maxRecDepth 100000 in
set_option maxHeartbeats 2000000 in
theorem c_impl_SplitThreshold {p key v n t : Int} {w : World} :
    Calls Try.prog 55 #[.int .i64 p, .int .i64 key, .int .i64 v, .int .i64 n, .int .i64 t] w (RetIB w (splitOM p key v n t)) := by
  rcases h1 : elemB p v with _ | _
  · have HM := Lib.hid (show splitOM p key v n t = none by unfold splitOM; rw [h1]; rfl)
    go_enter Try.func55, Try.ntmps55
    go_wp2_with (go_at_call 66; refine (c_impl_isElement).mono ?_; rintro e w' ⟨rfl, rfl⟩)
    go_ret2; rw [HM.out]; exact RetIB.no _
  · have hpb := elemB_bd h1
    rcases h2 : inB key 0 1000000000 with _ | _
    · have HM := Lib.hid (show splitOM p key v n t = none by unfold splitOM; rw [h1, h2]; rfl)
      go_enter Try.func55, Try.ntmps55
      go_wp2_with (first | (go_at_call 66; refine (c_impl_isElement).mono ?_; rintro e w' ⟨rfl, rfl⟩) | (go_at_call 90; refine (c_impl_isKey).mono ?_; rintro e w' ⟨rfl, rfl⟩))
      go_ret2; rw [HM.out]; exact RetIB.no _
    · have hkb := inB_bd h2
      by_cases hlt : p - 1 < 10
      · have hm : min 10 (p - 1) = p - 1 := by omega
        rcases h3 : inB n 1 (p - 1) with _ | _
        · have HM := Lib.hid (show splitOM p key v n t = none by unfold splitOM; rw [h1, h2, hm, h3]; rfl)
          clear hm
          go_enter Try.func55, Try.ntmps55
          go_wp2_with (first | (go_at_call 66; refine (c_impl_isElement).mono ?_; rintro e w' ⟨rfl, rfl⟩) | (go_at_call 90; refine (c_impl_isKey).mono ?_; rintro e w' ⟨rfl, rfl⟩) | (go_at_call 70; refine (c_impl_within).mono ?_; rintro e w' ⟨rfl, rfl⟩))
          go_ret2; rw [HM.out]; exact RetIB.no _
        · rcases h4 : inB t 1 n with _ | _
          · have HM := Lib.hid (show splitOM p key v n t = none by unfold splitOM; rw [h1, h2, hm, h3, h4]; rfl)
            clear hm
            go_enter Try.func55, Try.ntmps55
            go_wp2_with (first | (go_at_call 66; refine (c_impl_isElement).mono ?_; rintro e w' ⟨rfl, rfl⟩) | (go_at_call 90; refine (c_impl_isKey).mono ?_; rintro e w' ⟨rfl, rfl⟩) | (go_at_call 70; refine (c_impl_within).mono ?_; rintro e w' ⟨rfl, rfl⟩))
            go_ret2; rw [HM.out]; exact RetIB.no _
          · have HM := Lib.hid (show splitOM p key v n t = some (splitN p (coefN p key v (t.toNat - 1)) n.toNat) by unfold splitOM; rw [h1, h2, hm, h3, h4]; rfl)
            have hn := inB_bd h3
            have ht := inB_bd h4
            obtain ⟨n', rfl⟩ := nat_of (show 0 ≤ n by omega)
            obtain ⟨t', rfl⟩ := nat_of (show 0 ≤ t by omega)
            have HC := Lib.hid (fun W => c_impl_splitThreshold (p := p) (key := key) (v := v) (n := n') (t := t') (w := W) (by omega) hkb (by omega) (by omega) (by omega))
            clear hm
            go_enter Try.func55, Try.ntmps55
            go_wp2_with (first | (go_at_call 66; refine (c_impl_isElement).mono ?_; rintro e w' ⟨rfl, rfl⟩) | (go_at_call 90; refine (c_impl_isKey).mono ?_; rintro e w' ⟨rfl, rfl⟩) | (go_at_call 70; refine (c_impl_within).mono ?_; rintro e w' ⟨rfl, rfl⟩))
            refine (HC.out _).mono ?_
            rintro e w1 ⟨u, rfl, hu, hb1⟩
            have HU := Lib.hid hu
            have HB1 := Lib.hid hb1
            clear hu hb1
            go_wp2
            go_ret2; rw [HM.out]; simp only [Int.toNat_natCast]; exact RetIB.yes HU.out HB1.out
      · have hm : min 10 (p - 1) = 10 := by omega
        rcases h3 : inB n 1 (10) with _ | _
        · have HM := Lib.hid (show splitOM p key v n t = none by unfold splitOM; rw [h1, h2, hm, h3]; rfl)
          clear hm
          go_enter Try.func55, Try.ntmps55
          go_wp2_with (first | (go_at_call 66; refine (c_impl_isElement).mono ?_; rintro e w' ⟨rfl, rfl⟩) | (go_at_call 90; refine (c_impl_isKey).mono ?_; rintro e w' ⟨rfl, rfl⟩) | (go_at_call 70; refine (c_impl_within).mono ?_; rintro e w' ⟨rfl, rfl⟩))
          go_ret2; rw [HM.out]; exact RetIB.no _
        · rcases h4 : inB t 1 n with _ | _
          · have HM := Lib.hid (show splitOM p key v n t = none by unfold splitOM; rw [h1, h2, hm, h3, h4]; rfl)
            clear hm
            go_enter Try.func55, Try.ntmps55
            go_wp2_with (first | (go_at_call 66; refine (c_impl_isElement).mono ?_; rintro e w' ⟨rfl, rfl⟩) | (go_at_call 90; refine (c_impl_isKey).mono ?_; rintro e w' ⟨rfl, rfl⟩) | (go_at_call 70; refine (c_impl_within).mono ?_; rintro e w' ⟨rfl, rfl⟩))
            go_ret2; rw [HM.out]; exact RetIB.no _
          · have HM := Lib.hid (show splitOM p key v n t = some (splitN p (coefN p key v (t.toNat - 1)) n.toNat) by unfold splitOM; rw [h1, h2, hm, h3, h4]; rfl)
            have hn := inB_bd h3
            have ht := inB_bd h4
            obtain ⟨n', rfl⟩ := nat_of (show 0 ≤ n by omega)
            obtain ⟨t', rfl⟩ := nat_of (show 0 ≤ t by omega)
            have HC := Lib.hid (fun W => c_impl_splitThreshold (p := p) (key := key) (v := v) (n := n') (t := t') (w := W) (by omega) hkb (by omega) (by omega) (by omega))
            clear hm
            go_enter Try.func55, Try.ntmps55
            go_wp2_with (first | (go_at_call 66; refine (c_impl_isElement).mono ?_; rintro e w' ⟨rfl, rfl⟩) | (go_at_call 90; refine (c_impl_isKey).mono ?_; rintro e w' ⟨rfl, rfl⟩) | (go_at_call 70; refine (c_impl_within).mono ?_; rintro e w' ⟨rfl, rfl⟩))
            refine (HC.out _).mono ?_
            rintro e w1 ⟨u, rfl, hu, hb1⟩
            have HU := Lib.hid hu
            have HB1 := Lib.hid hb1
            clear hu hb1
            go_wp2
            go_ret2; rw [HM.out]; simp only [Int.toNat_natCast]; exact RetIB.yes HU.out HB1.out
end Go.Proofs.Ytmccfdaaneemfaa
