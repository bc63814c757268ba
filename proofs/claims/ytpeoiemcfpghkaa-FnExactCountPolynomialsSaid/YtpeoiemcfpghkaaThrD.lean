/- Contracts of shares without one of them and of the only wrong share. Conditions: few shares, elements of the field. -/
import Derived.Test.YtpeoiemcfpghkaaThrC
import Derived.Test.YtpeoiemcfpghkaaAppR
import Derived.Test.YtpeoiemcfpghkaaDig3
namespace Go.Proofs.Ytpeoiemcfpghkaa
open Go.RowKit
set_option linter.unusedVariables false

set_option maxRecDepth 100000 in
set_option maxHeartbeats 1000000 in
theorem c_impl_left {v : Value} {l : List Int} {i : Nat} {w : World} (h : Ints w v l) (hl : l.length ≤ 1000) (hi : i < l.length) : Calls Try.prog 69 #[v, .int .i64 (i : Int)] w (RetI w (l.eraseIdx i)) := by
  have H := Lib.hid h
  obtain ⟨A, c, rfl, hlc, hcm, hrd⟩ := h
  obtain ⟨b, o, rfl, hbl, -⟩ := hrd.at_ (by simp; omega)
  have HE := Lib.hid (List.eraseIdx_eq_take_drop_succ l i)
  have HH := Lib.hid (H.out.headCap (k := i) (by omega))
  have hi0 : (0 : Int) ≤ (i : Int) := Int.natCast_nonneg _
  have hic : (i : Int) ≤ (c : Int) := by omega
  have hil : (i : Int) + 1 ≤ (l.length : Int) := by omega
  have hi1 : (0 : Int) ≤ (i : Int) + 1 := by omega
  have hwr : IntKind.i64.wrap ((i : Int) + 1) = (i : Int) + 1 := IntWalk.i64_in _ (by omega)
  have htn : ((i : Int) + 1).toNat = i + 1 := by omega
  have h1 : (l.take i).length ≤ 1048576 := by simp; omega
  have h2 : (l.drop (i + 1)).length ≤ 1048576 := by simp; omega
  unfold maxLen at hcm
  by_cases hci : c = i + 1
  · have hT0 := H.out.tail (k := i + 1) (by omega) (A2 := some ⟨b, o, none⟩) (by rw [if_pos hci])
    rw [show c - (i + 1) = 0 by omega, show l.length - (i + 1) = 0 by omega] at hT0
    have h3 : (l.drop (i + 1)).length = 0 := by simp; omega
    have HT := Lib.hid hT0
    clear hT0
    subst hci
    have hicA : (i : Int) ≤ ((i + 1 : Nat) : Int) := by omega
    have hicB : (i : Int) ≤ (i : Int) + 1 := by omega
    go_enter Try.func69, Try.ntmps69
    go_wp2_with fail
    go_region_held3 (fun w' => Below w.heap.size w w')
      (first | (refine below_step ?_ HD.out; assumption) | (exact (Below.refl _ _).drew))
      (first
        | (go_at_call 65; refine (c_impl_with2 (HH.out.below (by assumption)) (HT.out.below (by assumption)) h1 h2).mono ?_; rintro e wz ⟨u, rfl, hu, hb⟩; have HD := Lib.hid hb; have HU := Lib.hid hu; have hsz := hb.size; have HS := Lib.hid (show Below w.heap.size w _ by assumption)))
    have hE : Below w.heap.size w wz := by assumption
    go_wp2
    go_ret
    exact RetI.mk (by rw [HE.out]; exact HU.out.mono HS.out.size) hE
  · have HT := Lib.hid (H.out.tail (k := i + 1) (by omega) (A2 := some ⟨b, o + (i + 1), none⟩) (by rw [if_neg hci, Option.map_some, Addr.add_lit]))
    go_enter Try.func69, Try.ntmps69
    go_wp2_with fail
    go_region_held3 (fun w' => Below w.heap.size w w')
      (first | (refine below_step ?_ HD.out; assumption) | (exact (Below.refl _ _).drew))
      (first
        | (go_at_call 65; refine (c_impl_with2 (HH.out.below (by assumption)) (HT.out.below (by assumption)) h1 h2).mono ?_; rintro e wz ⟨u, rfl, hu, hb⟩; have HD := Lib.hid hb; have HU := Lib.hid hu; have hsz := hb.size; have HS := Lib.hid (show Below w.heap.size w _ by assumption)))
    have hE : Below w.heap.size w wz := by assumption
    go_wp2
    go_ret
    exact RetI.mk (by rw [HE.out]; exact HU.out.mono HS.out.size) hE
set_option maxRecDepth 100000 in
set_option maxHeartbeats 1000000 in
theorem c_spec_thWithout {v : Value} {l : List Int} {i : Nat} {w : World} (h : Ints w v l) (hl : l.length ≤ 1000) (hi : i < l.length) : Calls Try.prog 68 #[v, .int .i64 (i : Int)] w (RetI w (l.eraseIdx i)) := by
  have H := Lib.hid h
  obtain ⟨A, c, rfl, hlc, hcm, hrd⟩ := h
  obtain ⟨b, o, rfl, hbl, -⟩ := hrd.at_ (by simp; omega)
  have HE := Lib.hid (List.eraseIdx_eq_take_drop_succ l i)
  have HH := Lib.hid (H.out.head (k := i) (by omega))
  have hi0 : (0 : Int) ≤ (i : Int) := Int.natCast_nonneg _
  have hic : (i : Int) ≤ (c : Int) := by omega
  have hil : (i : Int) + 1 ≤ (l.length : Int) := by omega
  have hi1 : (0 : Int) ≤ (i : Int) + 1 := by omega
  have hwr : IntKind.i64.wrap ((i : Int) + 1) = (i : Int) + 1 := IntWalk.i64_in _ (by omega)
  have htn : ((i : Int) + 1).toNat = i + 1 := by omega
  have h1 : (l.take i).length ≤ 2097152 := by simp; omega
  have h4 : (l.take i).length = i := by simp; omega
  have h3 : (l.drop (i + 1)).length = l.length - (i + 1) := by simp
  have hc0 : ¬ c = 0 := by omega
  unfold maxLen at hcm
  by_cases hci : c = i + 1
  · have hT0 := H.out.tail (k := i + 1) (by omega) (A2 := some ⟨b, o, none⟩) (by rw [if_pos hci])
    rw [show c - (i + 1) = 0 by omega, show l.length - (i + 1) = 0 by omega] at hT0
    have h3 : (l.drop (i + 1)).length = 0 := by simp; omega
    have HT := Lib.hid hT0
    clear hT0
    subst hci
    have hicA : (i : Int) ≤ ((i + 1 : Nat) : Int) := by omega
    have hicB : (i : Int) ≤ (i : Int) + 1 := by omega
    go_enter Try.func68, Try.ntmps68
    go_wp2_with fail
    go_region_held3 (fun w' => Below w.heap.size w w')
      (first | (refine below_step ?_ HD.out; assumption) | exact KP.out | (exact (Below.refl _ _).drew))
      (first
        | (go_at_call 79; refine (c_spec_l1Own (HH.out.below (by assumption)) h1).mono ?_; rintro e wz ⟨u, rfl, hu, hb⟩; have HD := Lib.hid hb; have hS : Below w.heap.size w _ := (by assumption); have HF := Lib.hid (below_step hS hb); have HU := Lib.hid (hu.mono hS.size); clear hu hS)
        | (refine step_appAll (B := w.heap.size) (by rfl) (by rfl) Try.underlying22 info_int rfl HU.out (HT.out.rd.below HF.out) ((List.length_map _).trans h3) (by rfl) (by rfl) (ints_one _) (by unfold maxLen; omega) (by omega) HF.out.size ?_; intro v' w9 ho hg hfr; have KP := Lib.hid (below_app HF.out HU.out hg (Nat.le_refl _)); have HO9 := Lib.hid ho))
    have hE : Below w.heap.size w w9 := by assumption
    go_wp2
    go_ret
    exact RetI.mk (by rw [HE.out]; exact OwnI.app (by rw [h3]; exact HO9.out)) hE
  · have HT := Lib.hid (H.out.tail (k := i + 1) (by omega) (A2 := some ⟨b, o + (i + 1), none⟩) (by rw [if_neg hci, Option.map_some, Addr.add_lit]))
    go_enter Try.func68, Try.ntmps68
    go_wp2_with fail
    go_region_held3 (fun w' => Below w.heap.size w w')
      (first | (refine below_step ?_ HD.out; assumption) | exact KP.out | (exact (Below.refl _ _).drew))
      (first
        | (go_at_call 79; refine (c_spec_l1Own (HH.out.below (by assumption)) h1).mono ?_; rintro e wz ⟨u, rfl, hu, hb⟩; have HD := Lib.hid hb; have hS : Below w.heap.size w _ := (by assumption); have HF := Lib.hid (below_step hS hb); have HU := Lib.hid (hu.mono hS.size); clear hu hS)
        | (refine step_appAll (B := w.heap.size) (by rfl) (by rfl) Try.underlying22 info_int rfl HU.out (HT.out.rd.below HF.out) ((List.length_map _).trans h3) (by rfl) (by rfl) (ints_one _) (by unfold maxLen; omega) (by omega) HF.out.size ?_; intro v' w9 ho hg hfr; have KP := Lib.hid (below_app HF.out HU.out hg (Nat.le_refl _)); have HO9 := Lib.hid ho))
    have hE : Below w.heap.size w w9 := by assumption
    go_wp2
    go_ret
    exact RetI.mk (by rw [HE.out]; exact OwnI.app (by rw [h3]; exact HO9.out)) hE
end Go.Proofs.Ytpeoiemcfpghkaa
