/- The contracts of the reference's test of a system and of its elimination. Conditions: the lists are short. -/
import Derived.Test.YtjijghfagaigbaaGauM
import Derived.Test.YtjijghfagaigbaaDig3
import Derived.Test.YtjijghfagaigbaaGau
import Derived.Deep.RegionLaw
import Derived.BigRegion
namespace Go.Proofs.Ytjijghfagaigbaa
open Go.RowKit
set_option linter.unusedVariables false

def sysR (p : Int) (n : Nat) (r : List Int) : Bool := ((r.length : Int) == (n : Int)) && allB r 0 (p - 1)
set_option maxRecDepth 100000 in
set_option maxHeartbeats 1000000 in
theorem c_spec_fpSystem {vr vy : Value} {rows : List (List Int)} {right : List Int} {p : Int} {w : World} (hx : RowsIn w vr rows) (hy : Ints w vy right) (hl : rows.length ≤ 2097152) (hl2 : right.length ≤ 2097152) (hr : ∀ r ∈ rows, r.length ≤ 2097152) :
    Calls Try.prog 15 #[.int .i64 p, vr, vy] w fun e w' => e = .returned (.bool (sysB p rows right)) ∧ w = w' := by
  obtain ⟨A, c, rfl, hlc, hcm, hat⟩ := hx.form
  have HY := Lib.hid hy
  obtain ⟨A', c', rfl, -⟩ := hy
  have HAT := Lib.hid hat
  have HR := Lib.hid hr
  clear hx hat hr hlc
  unfold maxLen at hcm
  rcases hf : fldB p with _ | _
  · have HM := Lib.hid (show sysB p rows right = false by unfold sysB; rw [hf]; simp)
    go_enter Try.func15, Try.ntmps15
    go_wp2
    go_loop [11] (fun i => ∃ k : Nat, k ≤ rows.length ∧ i = .int .i64 k) (fun i => rows.length - (intOf i).toNat)
    case atStart => exact ⟨0, Nat.zero_le _, rfl⟩
    case round =>
      obtain ⟨k, hk, rfl⟩ := hrel
      by_cases hlt : k < rows.length
      · obtain ⟨b, o, A1, r, c1, rfl, hbl, hrk, hcell, hi⟩ := HAT.out k hlt
        have hrl := HR.out r (List.mem_of_getElem? hrk)
        have HI := Lib.hid hi
        clear hi hrk
        rcases he : ((r.length : Int) != (rows.length : Int)) with _ | _
        · go_wp2_with fail
          refine (c_spec_l1All HI.out hrl).mono ?_
          rintro e w' ⟨rfl, rfl⟩
          generalize allB r 0 _ = bb
          rcases bb with _ | _
          · go_wp2
            go_ret; exact ⟨by rw [HM.out]; rfl, rfl⟩
          · go_wp2
            go_round
            case rel => exact ⟨k + 1, by omega, by go_num⟩
            case measure => simp [intOf]; omega
        · go_wp2
          go_ret; exact ⟨by rw [HM.out]; rfl, rfl⟩
      · go_wp2_with (go_at_call 25; refine (k_spec_fpGood).mono ?_; rintro e w' ⟨rfl, rfl⟩)
        go_ret; exact ⟨by rw [HM.out]; rfl, rfl⟩
  · have hpb := fldB_bd hf
    have e1 : IntKind.i64.wrap (p - 1) = p - 1 := IntWalk.i64_in _ (by omega)
    go_enter Try.func15, Try.ntmps15
    go_wp2
    go_loop [11] (fun i => ∃ k : Nat, k ≤ rows.length ∧ i = .int .i64 k ∧ Hid ((rows.take k).all (sysR p rows.length) = true)) (fun i => rows.length - (intOf i).toNat)
    case atStart => exact ⟨0, Nat.zero_le _, rfl, Lib.hid rfl⟩
    case round =>
      obtain ⟨k, hk, rfl, HA⟩ := hrel
      by_cases hlt : k < rows.length
      · obtain ⟨b, o, A1, r, c1, rfl, hbl, hrk, hcell, hi⟩ := HAT.out k hlt
        have hrl := HR.out r (List.mem_of_getElem? hrk)
        have hmem : r ∈ rows := List.mem_of_getElem? hrk
        have HT := Lib.hid (take_snoc hrk)
        have HI := Lib.hid hi
        clear hi hrk
        rcases he : ((r.length : Int) != (rows.length : Int)) with _ | _
        · have hee : ((r.length : Int) == (rows.length : Int)) = true := by have h9 := he; simp at h9; simp [h9]
          rcases ha : allB r 0 (p - 1) with _ | _
          · have HM := Lib.hid (show sysB p rows right = false by
              have : rows.all (sysR p rows.length) = false := by rw [List.all_eq_false]; exact ⟨r, hmem, by unfold sysR; rw [ha]; simp⟩
              unfold sysB; rw [show rows.all (fun r => ((r.length : Int) == (rows.length : Int)) && allB r 0 (p - 1)) = false from this]; simp)
            clear hee
            go_wp2_with (go_at_call 24; refine (c_spec_l1All HI.out hrl).mono ?_; rintro e w' ⟨rfl, rfl⟩)
            go_ret; exact ⟨by rw [HM.out]; rfl, rfl⟩
          · have HN := Lib.hid (show (rows.take (k + 1)).all (sysR p rows.length) = true by rw [HT.out, List.all_append, HA.out]; simp only [List.all_cons, List.all_nil, sysR, hee, ha]; rfl)
            clear hee
            go_wp2_with (go_at_call 24; refine (c_spec_l1All HI.out hrl).mono ?_; rintro e w' ⟨rfl, rfl⟩)
            go_round
            case rel => exact ⟨k + 1, by omega, by go_num, HN⟩
            case measure => simp [intOf]; omega
        · have HM := Lib.hid (show sysB p rows right = false by
            have h9 : ((r.length : Int) == (rows.length : Int)) = false := by simpa [bne] using he
            have : rows.all (sysR p rows.length) = false := by rw [List.all_eq_false]; exact ⟨r, hmem, by unfold sysR; rw [h9]; simp⟩
            unfold sysB; rw [show rows.all (fun r => ((r.length : Int) == (rows.length : Int)) && allB r 0 (p - 1)) = false from this]; simp)
          go_wp2
          go_ret; exact ⟨by rw [HM.out]; rfl, rfl⟩
      · have HM := Lib.hid (show sysB p rows right = (inB rows.length 1 6 && ((right.length : Int) == (rows.length : Int)) && allB right 0 (p - 1)) by
          have h := HA.out
          rw [List.take_of_length_le (by omega)] at h
          unfold sysB; rw [show rows.all (fun r => ((r.length : Int) == (rows.length : Int)) && allB r 0 (p - 1)) = true from h, hf]; simp)
        rcases h1 : inB (rows.length : Int) 1 6 with _ | _
        · go_wp2_with (first | (go_at_call 25; refine (k_spec_fpGood).mono ?_; rintro e w' ⟨rfl, rfl⟩) | (go_at_call 26; refine (c_spec_l1In).mono ?_; rintro e w' ⟨rfl, rfl⟩))
          go_ret; exact ⟨by rw [HM.out, h1]; rfl, rfl⟩
        · rcases h2 : ((right.length : Int) == (rows.length : Int)) with _ | _
          · go_wp2_with (first | (go_at_call 25; refine (k_spec_fpGood).mono ?_; rintro e w' ⟨rfl, rfl⟩) | (go_at_call 26; refine (c_spec_l1In).mono ?_; rintro e w' ⟨rfl, rfl⟩))
            go_ret; exact ⟨by rw [HM.out, h1, h2]; rfl, rfl⟩
          · rcases h3 : allB right 0 (p - 1) with _ | _
            · go_wp2_with (first | (go_at_call 25; refine (k_spec_fpGood).mono ?_; rintro e w' ⟨rfl, rfl⟩) | (go_at_call 26; refine (c_spec_l1In).mono ?_; rintro e w' ⟨rfl, rfl⟩) | (go_at_call 24; refine (c_spec_l1All HY.out hl2).mono ?_; rintro e w' ⟨rfl, rfl⟩))
              go_ret; exact ⟨by rw [HM.out, h1, h2, h3]; rfl, rfl⟩
            · go_wp2_with (first | (go_at_call 25; refine (k_spec_fpGood).mono ?_; rintro e w' ⟨rfl, rfl⟩) | (go_at_call 26; refine (c_spec_l1In).mono ?_; rintro e w' ⟨rfl, rfl⟩) | (go_at_call 24; refine (c_spec_l1All HY.out hl2).mono ?_; rintro e w' ⟨rfl, rfl⟩))
              go_ret; exact ⟨by rw [HM.out, h1, h2, h3]; rfl, rfl⟩
end Go.Proofs.Ytjijghfagaigbaa
