/- Contracts of shares that are scaled and shifted. Conditions: the lists are short. -/
import Derived.Test.YtmccfdaaneemfaaShrB
import Derived.Test.YtmccfdaaneemfaaShrV
namespace Go.Proofs.Ytmccfdaaneemfaa
open Go.RowKit
set_option linter.unusedVariables false

noncomputable def scalM (p : Int) (a : List Int) (s : Int) : Option (List Int) := if shB p a && inB s 0 (p - 1) then some (combN (fun x y => x * s) p a a) else none
noncomputable def shifM (p t : Int) (a : List Int) (s : Int) : Option (List Int) := if shB p a && inB s 0 (p - 1) && inB t 0 1 then some (combN (fun x y => x + s * (1 - t)) p a a) else none
theorem combM_self {f : Int → Int → Int} {p : Int} {a : List Int} : combM f p a a = if shB p a then some (combN f p a a) else none := by
  unfold combM; rw [Bool.and_self, decide_eq_true rfl, Bool.and_true]
theorem combN_zero {p s : Int} : ∀ a : List Int, combN (fun x y => x + s * y) p (List.replicate a.length 0) a = combN (fun x y => x * s) p a a
  | [] => rfl
  | x :: a => by
    have ih := combN_zero (p := p) (s := s) a
    unfold combN at ih ⊢
    rw [List.length_cons, List.replicate_succ, List.zipWith_cons_cons, List.zipWith_cons_cons, ih]
    simp only [Int.zero_add, Int.mul_comm s x]
set_option maxHeartbeats 1000000 in
theorem c_impl_ScaleShare {v : Value} {a : List Int} {p s : Int} {w : World} (h : Ints w v a) (hl : a.length ≤ 1000) :
    Calls Try.prog 38 #[.int .i64 p, v, .int .i64 s] w (RetIB w (scalM p a s)) := by
  have H := Lib.hid h
  obtain ⟨A, c, rfl, -⟩ := h
  have HL := Lib.hid ((Below.refl w.heap.size w).alloc (Nat.le_refl _) (.cells #[.int .i64 s] 3))
  rcases he : elemB p s with _ | _
  · have HM := Lib.hid (show scalM p a s = none by
      unfold scalM
      rcases hs : shB p a with _ | _
      · rfl
      · have := (shB_of hs).1
        unfold elemB at he; rw [this, Bool.true_and] at he; rw [he]; rfl)
    go_enter Try.func38, Try.ntmps38
    go_wp2_with fail
    refine (c_impl_isElement).mono ?_
    rintro e w' ⟨rfl, rfl⟩
    rw [he]
    go_wp2
    go_ret2; rw [HM.out]; exact RetIB.no_below HL.out
  · have hb := elemB_bd he
    have HM := Lib.hid (show scalM p a s = combM (fun x y => x * s) p a a by
      rw [combM_self]; unfold scalM; rw [inB_mk hb.2.2.1 hb.2.2.2, Bool.and_true])
    go_enter Try.func38, Try.ntmps38
    go_wp2_with fail
    refine (c_impl_isElement).mono ?_
    rintro e w' ⟨rfl, rfl⟩
    rw [he]
    go_wp2_with fail
    refine (c_combined_ScaleShare (H.out.below HL.out) (H.out.below HL.out) (by omega) (by omega) (cell_new w _ _) (by simp) (by omega)).mono ?_
    rintro e w1 ⟨u, rfl, hu, hb1⟩
    go_wp2
    go_ret2; rw [HM.out]
    exact ⟨_, rfl, hu.mono HL.out.size, below_step HL.out hb1⟩
set_option maxHeartbeats 1000000 in
theorem c_impl_ShiftShare {v : Value} {a : List Int} {p t s : Int} {w : World} (h : Ints w v a) (hl : a.length ≤ 1000) :
    Calls Try.prog 33 #[.int .i64 p, .int .i64 t, v, .int .i64 s] w (RetIB w (shifM p t a s)) := by
  have H := Lib.hid h
  obtain ⟨A, c, rfl, -⟩ := h
  have HL := Lib.hid (((Below.refl w.heap.size w).alloc (Nat.le_refl _) (.cells #[.int .i64 t] 3)).alloc (by simp) (.cells #[.int .i64 s] 3))
  rcases he : elemB p s with _ | _
  · have HM := Lib.hid (show shifM p t a s = none by
      unfold shifM
      rcases hs : shB p a with _ | _
      · rfl
      · have := (shB_of hs).1
        unfold elemB at he; rw [this, Bool.true_and] at he; rw [he]; rfl)
    go_enter Try.func33, Try.ntmps33
    go_wp2_with fail
    refine (c_impl_isElement).mono ?_
    rintro e w' ⟨rfl, rfl⟩
    rw [he]
    go_wp2
    go_ret2; rw [HM.out]; exact RetIB.no_below HL.out
  have hb := elemB_bd he
  have x0 : ((w.alloc (.cells #[.int .i64 t] 3)).alloc (.cells #[.int .i64 s] 3)).cell? ⟨w.heap.size, 0, none⟩ = some (.int .i64 t) := (((Below.refl _ _).alloc (Nat.le_refl _) _).cell (p := ⟨w.heap.size, 0, none⟩) (by simp)).trans (cell_new w _ _)
  have x1 : ((w.alloc (.cells #[.int .i64 t] 3)).alloc (.cells #[.int .i64 s] 3)).cell? ⟨w.heap.size + 1, 0, none⟩ = some (.int .i64 s) := by have := cell_new (w.alloc (.cells #[.int .i64 t] 3)) (.int .i64 s) 3; simp only [World.size_alloc] at this; exact this
  rcases ht : inB t 0 1 with _ | _
  · have HM := Lib.hid (show shifM p t a s = none by unfold shifM; rw [ht, Bool.and_false]; rfl)
    go_enter Try.func33, Try.ntmps33
    go_wp2_with fail
    refine (c_impl_isElement).mono ?_
    rintro e w' ⟨rfl, rfl⟩
    rw [he]
    go_wp2_with fail
    refine (c_impl_isBit).mono ?_
    rintro e w' ⟨rfl, rfl⟩
    rw [ht]
    go_wp2
    go_ret2; rw [HM.out]; exact RetIB.no_below HL.out
  · have htb := inB_bd ht
    have HM := Lib.hid (show shifM p t a s = combM (fun x y => x + s * (1 - t)) p a a by
      rw [combM_self]; unfold shifM; rw [inB_mk hb.2.2.1 hb.2.2.2, ht, Bool.and_true, Bool.and_true])
    go_enter Try.func33, Try.ntmps33
    go_wp2_with fail
    refine (c_impl_isElement).mono ?_
    rintro e w' ⟨rfl, rfl⟩
    rw [he]
    go_wp2_with fail
    refine (c_impl_isBit).mono ?_
    rintro e w' ⟨rfl, rfl⟩
    rw [ht]
    go_wp2_with fail
    refine (c_combined_ShiftShare (H.out.below HL.out) (H.out.below HL.out) (by omega) (by omega) x1 x0 (by simp) (by simp; omega) (by omega) (by omega)).mono ?_
    rintro e w1 ⟨u, rfl, hu, hb1⟩
    go_wp2
    go_ret2; rw [HM.out]
    exact ⟨_, rfl, hu.mono HL.out.size, below_step HL.out hb1⟩
set_option maxHeartbeats 1000000 in
theorem c_spec_ScaleShare {v : Value} {a : List Int} {p s : Int} {w : World} (h : Ints w v a) (hl : a.length ≤ 1000) :
    Calls Try.prog 39 #[.int .i64 p, v, .int .i64 s] w (RetIB w (scalM p a s)) := by
  have H := Lib.hid h
  obtain ⟨A, c, rfl, -⟩ := h
  obtain ⟨i0, hi0, hz0, hz1, hz2⟩ := info_parts info_int
  rcases hs : shB p a with _ | _
  · have HM := Lib.hid (show scalM p a s = none by unfold scalM; rw [hs]; rfl)
    go_enter Try.func39, Try.ntmps39
    go_wp2_with fail
    refine (c_spec_shValues H.out (by omega)).mono ?_
    rintro e w' ⟨rfl, rfl⟩
    rw [hs]
    go_wp2
    go_ret2; rw [HM.out]; exact RetIB.no_below (Below.refl _ _)
  have hv := shB_of hs
  have hpb := fldB_bd hv.1
  have HXA := Lib.hid hv.2.1
  have ha40 := hv.2.2
  clear hv
  rcases hk : inB s 0 (p - 1) with _ | _
  · have HM := Lib.hid (show scalM p a s = none by unfold scalM; rw [hk, Bool.and_false]; rfl)
    go_enter Try.func39, Try.ntmps39
    go_wp2_with fail
    refine (c_spec_shValues H.out (by omega)).mono ?_
    rintro e w' ⟨rfl, rfl⟩
    rw [hs]
    go_wp2_with fail
    refine (c_spec_l1In).mono ?_
    rintro e w' ⟨rfl, rfl⟩
    rw [hk]
    go_wp2
    go_ret2; rw [HM.out]; exact RetIB.no_below (Below.refl _ _)
  · have HM := Lib.hid (show scalM p a s = some (combN (fun x y => x * s) p a a) by unfold scalM; rw [hs, hk]; rfl)
    have hkb := inB_bd hk
    have HZR := Lib.hid (combN_zero (p := p) (s := s) a)
    go_enter Try.func39, Try.ntmps39
    go_wp2_with fail
    refine (c_spec_shValues H.out (by omega)).mono ?_
    rintro e w' ⟨rfl, rfl⟩
    rw [hs]
    go_wp2_with fail
    refine (c_spec_l1In).mono ?_
    rintro e w' ⟨rfl, rfl⟩
    rw [hk]
    go_wp2_with (at_make; refine wpList_make_full _ rfl _ _ 32 rfl w.heap.size 3 i0 (.int .i64 0) 1 Try.underlying32 hi0 hz0 hz1 _ _ _ _ a.length rfl rfl rfl rfl (by rw [hz2]; omega) (by unfold maxLen; omega) (Nat.le_refl _) ?_; intro w1 hown hg; have HZ := Lib.hid (own_made hown); have hb1 : Below w.heap.size w w1 := ((Below.refl _ _).grown hg (Nat.le_refl _) (by simp)); clear hown hg)
    have HB1 := Lib.hid hb1
    clear hb1
    refine (c_spec_shSum HZ.out.ints (H.out.below HB1.out) (by simp; omega) (by simp) (by omega) (by omega) (fun x hx => by have := List.eq_of_mem_replicate hx; omega) HXA.out).mono ?_
    rintro e w2 ⟨u, rfl, hu, hb2⟩
    rw [HZR.out] at hu
    go_wp2
    go_ret2; rw [HM.out]
    exact RetIB.yes (hu.mono HB1.out.size) (below_step HB1.out hb2)
set_option maxHeartbeats 2000000 in
theorem c_spec_ShiftShare {v : Value} {a : List Int} {p t s : Int} {w : World} (h : Ints w v a) (hl : a.length ≤ 1000) :
    Calls Try.prog 34 #[.int .i64 p, .int .i64 t, v, .int .i64 s] w (RetIB w (shifM p t a s)) := by
  have H := Lib.hid h
  obtain ⟨A, c, rfl, hlc, hcm, hrd⟩ := h
  rcases hs : shB p a with _ | _
  · have HM := Lib.hid (show shifM p t a s = none by unfold shifM; rw [hs]; rfl)
    go_enter Try.func34, Try.ntmps34
    go_wp2_with fail
    refine (c_spec_shValues H.out (by omega)).mono ?_
    rintro e w' ⟨rfl, rfl⟩
    rw [hs]
    go_wp2
    go_ret2; rw [HM.out]; exact RetIB.no_below (Below.refl _ _)
  have hv := shB_of hs
  have hpb := fldB_bd hv.1
  have HXA := Lib.hid hv.2.1
  have ha40 := hv.2.2
  clear hv
  rcases hk : inB s 0 (p - 1) with _ | _
  · have HM := Lib.hid (show shifM p t a s = none by unfold shifM; rw [hk, Bool.and_false]; rfl)
    go_enter Try.func34, Try.ntmps34
    go_wp2_with fail
    refine (c_spec_shValues H.out (by omega)).mono ?_
    rintro e w' ⟨rfl, rfl⟩
    rw [hs]
    go_wp2_with fail
    refine (c_spec_l1In).mono ?_
    rintro e w' ⟨rfl, rfl⟩
    rw [hk]
    go_wp2
    go_ret2; rw [HM.out]; exact RetIB.no_below (Below.refl _ _)
  rcases ht : inB t 0 1 with _ | _
  · have HM := Lib.hid (show shifM p t a s = none by unfold shifM; rw [ht, Bool.and_false]; rfl)
    go_enter Try.func34, Try.ntmps34
    go_wp2_with fail
    refine (c_spec_shValues H.out (by omega)).mono ?_
    rintro e w' ⟨rfl, rfl⟩
    rw [hs]
    go_wp2_with fail
    refine (c_spec_l1In).mono ?_
    rintro e w' ⟨rfl, rfl⟩
    rw [hk]
    go_wp2_with fail
    refine (c_spec_l1In).mono ?_
    rintro e w' ⟨rfl, rfl⟩
    rw [ht]
    go_wp2
    go_ret2; rw [HM.out]; exact RetIB.no_below (Below.refl _ _)
  have HM := Lib.hid (show shifM p t a s = some (combN (fun x y => x + s * (1 - t)) p a a) by unfold shifM; rw [hs, hk, ht]; rfl)
  have hkb := inB_bd hk
  have htb := inB_bd ht
  have hp0 : ¬ p = 0 := by omega
  have hst := mulBd2 (x := 1 - t) (y := s) (a := 1) (b := 300) (by omega) (by omega)
  have HCM := Lib.hid (Int.mul_comm (1 - t) s)
  go_enter Try.func34, Try.ntmps34
  go_wp2_with fail
  refine (c_spec_shValues H.out (by omega)).mono ?_
  rintro e w' ⟨rfl, rfl⟩
  rw [hs]
  go_wp2_with fail
  refine (c_spec_l1In).mono ?_
  rintro e w' ⟨rfl, rfl⟩
  rw [hk]
  go_wp2_with fail
  refine (c_spec_l1In).mono ?_
  rintro e w' ⟨rfl, rfl⟩
  rw [ht]
  go_wp2
  go_loopw [10, 31] (fun u i wr => ∃ k : Nat, k ≤ a.length ∧ i = .int .i64 k ∧ Hid (OwnI wr w.heap.size u (combN (fun x y => x + s * (1 - t)) p (a.take k) (a.take k))) ∧ Hid (Below w.heap.size w wr)) (fun _ i _ => a.length - (intOf i).toNat)
  case atStart => exact ⟨0, Nat.zero_le _, rfl, Lib.hid (OwnI.nil _ _), Lib.hid (Below.refl _ _)⟩
  case round =>
    obtain ⟨k, hk, rfl, HO, HB⟩ := hrel
    obtain ⟨wa, rfl⟩ : ∃ W, W = wr := ⟨wr, rfl⟩
    by_cases hlt : k < a.length
    · obtain ⟨b1, o1, x, rfl, hbl, hxk, hcell⟩ := hrd.int_at hlt
      have hx1 := HXA.out x (List.mem_of_getElem? hxk)
      have HT := Lib.hid (combN_snoc (f := fun x y => x + s * (1 - t)) (p := p) hxk hxk)
      have hlen : (combN (fun x y => x + s * (1 - t)) p (a.take k) (a.take k)).length ≤ 1000 := by unfold combN; simp; omega
      have hsz := HB.out.size
      have e1 := (HB.out.cell (p := ⟨b1, o1 + k, none⟩) hbl).trans hcell
      have HE := Lib.hid (show (x + (1 - t) * s).tmod p = (x + s * (1 - t)) % p by rw [HCM.out] at hst ⊢; exact Int.tmod_eq_emod_of_nonneg (by omega))
      have HE2 := Lib.hid (show (x + (1 - t) * s) % p = (x + s * (1 - t)) % p by rw [HCM.out])
      generalize combN (fun x y => x + s * (1 - t)) p (a.take k) (a.take k) = Sk at *
      clear hxk hcell
      go_wp2_with (at_builtin; refine wp_app1 (B := w.heap.size) rfl rfl Try.underlying32 info_int rfl HO.out rfl rfl rfl (by unfold maxLen; omega) (by omega) hsz ?_; intro v' w9 ho hg hfr)
      have HB9 := Lib.hid (below_app HB.out HO.out hg (Nat.le_refl _))
      go_roundw
      case rel => exact ⟨k + 1, by omega, by go_num, by rw [HT.out]; first | (have := OwnI.snoc ho; rw [HE2.out] at this; exact Lib.hid this) | (have := OwnI.snoc ho; rw [HE.out] at this; exact Lib.hid this), HB9⟩
      case measure => simp [intOf]; omega
    · have HE := Lib.hid (show a.take k = a from List.take_of_length_le (by omega))
      go_wp2
      go_ret2; rw [HM.out]
      exact RetIB.yes (by have := HO.out; rw [HE.out] at this; exact this) HB.out
end Go.Proofs.Ytmccfdaaneemfaa
