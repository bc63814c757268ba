/- Contracts of lists of points and of weights. Conditions: the lists are short, the numbers elements of the field. -/
import Derived.Test.YtmccfdaaneemfaaPtsA
import Derived.Test.YtmccfdaaneemfaaBtMod
namespace Go.Proofs.Ytmccfdaaneemfaa
open Go.RowKit
set_option linter.unusedVariables false

/-- Lists are points. -/
noncomputable def ptsB (p : Int) (xs ys : List Int) : Bool := fpInB p xs && fpInB p ys && decide ((xs.length : Int) ≤ 12) && decide ((xs.length : Int) = (ys.length : Int)) && decide xs.Nodup
theorem fpInB_of {p : Int} {l : List Int} (h : fpInB p l = true) : fldB p = true ∧ ∀ x ∈ l, 0 ≤ x ∧ x < p := by
  simp only [fpInB, Bool.and_eq_true, allB] at h
  refine ⟨h.1, fun x hx => ?_⟩
  have := inB_bd (List.all_eq_true.1 h.2 x hx)
  omega
theorem fldB_prime {p : Int} (h : fldB p = true) : PrimeP p := by
  simp only [fldB, Bool.and_eq_true] at h; exact primeB_iff.1 h.2
theorem ptsB_of {p : Int} {xs ys : List Int} (h : ptsB p xs ys = true) : PrimeP p ∧ (2 ≤ p ∧ p ≤ 251) ∧ (∀ x ∈ xs, 0 ≤ x ∧ x < p) ∧ (∀ y ∈ ys, 0 ≤ y ∧ y < p) ∧ xs.length ≤ 12 ∧ xs.length = ys.length ∧ xs.Nodup := by
  simp only [ptsB, Bool.and_eq_true, decide_eq_true_eq] at h
  obtain ⟨⟨⟨⟨h1, h2⟩, h3⟩, h4⟩, h5⟩ := h
  have k1 := fpInB_of h1
  have k2 := fpInB_of h2
  exact ⟨fldB_prime k1.1, fldB_bd k1.1, k1.2, k2.2, by omega, by omega, h5⟩
theorem c_impl_arePoints {vx vy : Value} {xs ys : List Int} {p : Int} {w : World} (hx : Ints w vx xs) (hy : Ints w vy ys) (hlx : xs.length ≤ 2097152) (hly : ys.length ≤ 2097152) :
    Calls Try.prog 141 #[.int .i64 p, vx, vy] w fun e w' => e = .returned (.bool (ptsB p xs ys)) ∧ Below w.heap.size w w' := by
  have HX := Lib.hid hx
  have HY := Lib.hid hy
  obtain ⟨A, c, rfl, -⟩ := hx
  obtain ⟨A', c', rfl, -⟩ := hy
  rcases hX : fpInB p xs with _ | _
  · go_enter Try.func141, Try.ntmps141
    go_wp2_with fail
    refine (c_impl_areElements HX.out hlx).mono ?_
    rintro e w1 ⟨rfl, hb1⟩
    go_wp2
    go_ret; exact ⟨by simp [ptsB, hX], hb1⟩
  · rcases hY : fpInB p ys with _ | _
    · go_enter Try.func141, Try.ntmps141
      go_wp2_with fail
      refine (c_impl_areElements HX.out hlx).mono ?_
      rintro e w1 ⟨rfl, hb1⟩
      go_wp2_with fail
      refine (c_impl_areElements (HY.out.below hb1) hly).mono ?_
      rintro e w2 ⟨rfl, hb2⟩
      go_wp2
      go_ret; exact ⟨by simp [ptsB, hY], below_step hb1 hb2⟩
    · by_cases h12 : (xs.length : Int) ≤ 12
      · rcases hL : ((xs.length : Int) == (ys.length : Int)) with _ | _
        · have HN := Lib.hid (show ptsB p xs ys = false by
            have hne : ¬ (xs.length : Int) = (ys.length : Int) := by simpa using hL
            unfold ptsB; rw [decide_eq_false hne]; simp)
          go_enter Try.func141, Try.ntmps141
          go_wp2_with fail
          refine (c_impl_areElements HX.out hlx).mono ?_
          rintro e w1 ⟨rfl, hb1⟩
          go_wp2_with fail
          refine (c_impl_areElements (HY.out.below hb1) hly).mono ?_
          rintro e w2 ⟨rfl, hb2⟩
          go_wp2
          go_ret; exact ⟨by rw [HN.out]; rfl, below_step hb1 hb2⟩
        · have HN := Lib.hid (show ptsB p xs ys = decide xs.Nodup by
            have he : (xs.length : Int) = (ys.length : Int) := by simpa using hL
            unfold ptsB; rw [decide_eq_true he, decide_eq_true h12, hX, hY]; rfl)
          go_enter Try.func141, Try.ntmps141
          go_wp2_with fail
          refine (c_impl_areElements HX.out hlx).mono ?_
          rintro e w1 ⟨rfl, hb1⟩
          go_wp2_with fail
          refine (c_impl_areElements (HY.out.below hb1) hly).mono ?_
          rintro e w2 ⟨rfl, hb2⟩
          go_wp2_with fail
          refine (c_impl_areDifferent ((HX.out.below hb1).below hb2) hlx).mono ?_
          rintro e w3 ⟨rfl, rfl⟩
          go_wp2
          go_ret; exact ⟨by rw [HN.out]; rfl, below_step hb1 hb2⟩
      · have HN := Lib.hid (show ptsB p xs ys = false by unfold ptsB; rw [decide_eq_false h12]; simp)
        go_enter Try.func141, Try.ntmps141
        go_wp2_with fail
        refine (c_impl_areElements HX.out hlx).mono ?_
        rintro e w1 ⟨rfl, hb1⟩
        go_wp2_with fail
        refine (c_impl_areElements (HY.out.below hb1) hly).mono ?_
        rintro e w2 ⟨rfl, hb2⟩
        go_wp2
        go_ret; exact ⟨by rw [HN.out]; rfl, below_step hb1 hb2⟩
set_option maxRecDepth 100000 in
set_option maxHeartbeats 800000 in
theorem c_spec_l1Put {v : Value} {l : List Int} {n : Int} {w : World} (h : Ints w v l) (hl : l.length ≤ 2097152) :
    Calls Try.prog 150 #[v, .int .i64 n] w fun e w' => ∃ u, e = .returned u ∧ Ints w' u (putR l n) ∧ Below w.heap.size w w' := by
  have H := Lib.hid h
  obtain ⟨A, c, rfl, hlc, hcm, hrd⟩ := h
  unfold maxLen at hcm
  go_enter Try.func150, Try.ntmps150
  go_wp2
  go_loop [5] (fun i => ∃ k : Nat, k ≤ l.length ∧ i = .int .i64 k ∧ Hid (∀ j x, j < k → l[j]? = some x → x < n)) (fun i => l.length - (intOf i).toNat)
  case atStart => exact ⟨0, Nat.zero_le _, rfl, Lib.hid (by intro j x hj; omega)⟩
  case round =>
    obtain ⟨k, hk, rfl, HN⟩ := hrel
    have hk0 : (0 : Int) ≤ (k : Int) := Int.natCast_nonneg _
    by_cases hlt : k < l.length
    · obtain ⟨b, o, x, rfl, hbl, hxk, hcell⟩ := hrd.int_at hlt
      have HXK := Lib.hid hxk
      clear hxk
      by_cases hxn : x < n
      · go_wp2
        go_round
        case rel => exact ⟨k + 1, by omega, by go_num, Lib.hid (by
          intro j y hj hy
          rcases Nat.lt_or_ge j k with h | h
          · exact HN.out j y h hy
          · obtain rfl : j = k := by omega
            have := HXK.out.symm.trans hy
            injection this with e; omega)⟩
        case measure => simp [intOf]; omega
      · have HP := Lib.hid (putK_eq l n k hk HN.out (fun y hy => by have := HXK.out.symm.trans hy; injection this with e; omega))
        rcases he : x == n with _ | _
        · have HM := Lib.hid (show putR l n = l.take k ++ n :: l.drop k by
            rw [← HP.out]; unfold putK
            rw [HXK.out, if_neg (by intro e; injection e with e; simp [e] at he)])
          have hck : ¬ c = k := by omega
          have hc0 : ¬ c = 0 := by omega
          have HH := Lib.hid (H.out.head hk)
          have HT := Lib.hid (H.out.tail hk (A2 := some ⟨b, o + k, none⟩) (by rw [if_neg hck]; simp [Addr.add]))
          have hlk : (l.take k).length = k := by simp; omega
          have hl2 : (l.take k ++ [n]).length = k + 1 := by simp; omega
          have hl3 : (l.drop k).length = l.length - k := by simp
          go_wp2_with (at_builtin; first
            | (refine wp_appAll (B := w.heap.size) rfl rfl Try.underlying32 info_int rfl (own_empty 3 1 (Nat.le_refl _)) (HH.out.rd.alloc _) ((List.length_map _).trans hlk) rfl rfl (ints_one _) (by unfold maxLen; omega) (by omega) (by simp) ?_; intro v1 w1 ho1 hg1 hf1; have hb1 : Below w.heap.size w w1 := ((Below.refl _ _).alloc (Nat.le_refl _) _).grown hg1 (by simp) (by simp [Value.ownBlock]); have HO1 := Lib.hid (show OwnI w1 w.heap.size v1 (l.take k) by have := ho1; rw [Nat.zero_add] at this; unfold OwnI; rw [hlk]; simpa using this); have hz1 := hb1.size; clear ho1 hg1 hf1)
            | (refine wp_app1 (B := w.heap.size) rfl rfl Try.underlying32 info_int rfl HO1.out rfl rfl rfl (by unfold maxLen; omega) (by omega) hz1 ?_; intro v2 w2 ho2 hg2 hf2; have HO2 := Lib.hid (OwnI.snoc ho2); have hb2 := below_app hb1 HO1.out hg2 (Nat.le_refl _); have hz2 := hb2.size; clear ho2 hg2 hf2)
            | (refine wp_appAll (B := w.heap.size) rfl rfl Try.underlying32 info_int rfl HO2.out (HT.out.rd.below hb2) ((List.length_map _).trans hl3) rfl rfl (ints_one _) (by unfold maxLen; omega) (by omega) hz2 ?_; intro v3 w3 ho3 hg3 hf3))
          have hb3 := below_app hb2 HO2.out hg3 (Nat.le_refl _)
          go_ret
          refine ⟨_, rfl, ?_, hb3⟩
          rw [HM.out, show l.take k ++ n :: l.drop k = (l.take k ++ [n]) ++ l.drop k by simp]
          exact OwnI.ints (OwnI.app (by rw [hl3]; exact ho3))
        · have HM := Lib.hid (show putR l n = l by
            rw [← HP.out]; unfold putK
            rw [HXK.out, if_pos (by have := beq_iff_eq.1 he; rw [this])])
          go_wp2
          go_ret
          exact ⟨_, rfl, by rw [HM.out]; exact H.out, Below.refl _ _⟩
    · obtain rfl : k = l.length := by omega
      have HP := Lib.hid (putK_eq l n l.length hk HN.out (fun y hy => by simp at hy))
      have HM := Lib.hid (show putR l n = (l.take l.length ++ [n]) ++ l.drop l.length by
        rw [← HP.out]; unfold putK; rw [if_neg (by simp)]; simp)
      rcases Nat.eq_zero_or_pos l.length with h0 | h0
      · have : l = [] := List.eq_nil_of_length_eq_zero h0
        subst this
        simp only [List.take_nil, List.drop_nil, List.length_nil] at *
        by_cases hc0 : c = 0
        · subst hc0
          have hlk : (([] : List Int)).length = 0 := by simp
          have hl2 : (([] : List Int) ++ [n]).length = 0 + 1 := by simp
          have hl3 : (([] : List Int)).length = 0 := by simp
          go_wp2_with (at_builtin; first
            | (refine wp_appAll (news := (([] : List Int)).map (Value.int .i64)) (B := w.heap.size) rfl rfl Try.underlying32 info_int rfl (own_empty 3 1 (Nat.le_refl _)) (fun hn => absurd hn (by simp)) ((List.length_map _).trans hlk) rfl rfl (ints_one _) (by unfold maxLen; omega) (by omega) (by simp) ?_; intro v1 w1 ho1 hg1 hf1; have hb1 : Below w.heap.size w w1 := ((Below.refl _ _).alloc (Nat.le_refl _) _).grown hg1 (by simp) (by simp [Value.ownBlock]); have HO1 := Lib.hid (show OwnI w1 w.heap.size v1 (([] : List Int)) by have := ho1; rw [Nat.zero_add] at this; unfold OwnI; rw [hlk]; simpa using this); have hz1 := hb1.size; clear ho1 hg1 hf1)
            | (refine wp_app1 (B := w.heap.size) rfl rfl Try.underlying32 info_int rfl HO1.out rfl rfl rfl (by unfold maxLen; omega) (by omega) hz1 ?_; intro v2 w2 ho2 hg2 hf2; have HO2 := Lib.hid (OwnI.snoc ho2); have hb2 := below_app hb1 HO1.out hg2 (Nat.le_refl _); have hz2 := hb2.size; clear ho2 hg2 hf2)
            | (refine wp_appAll (news := (([] : List Int)).map (Value.int .i64)) (B := w.heap.size) rfl rfl Try.underlying32 info_int rfl HO2.out (fun hn => absurd hn (by simp)) ((List.length_map _).trans hl3) rfl rfl (ints_one _) (by unfold maxLen; omega) (by omega) hz2 ?_; intro v3 w3 ho3 hg3 hf3))
          have hb3 := below_app hb2 HO2.out hg3 (Nat.le_refl _)
          go_ret
          refine ⟨_, rfl, ?_, hb3⟩
          rw [HM.out]
          exact OwnI.ints (OwnI.app (by rw [hl3]; exact ho3))
        · have hc1 : ¬ c = 0 := hc0
          have hlk : (([] : List Int)).length = 0 := by simp
          have hl2 : (([] : List Int) ++ [n]).length = 0 + 1 := by simp
          have hl3 : (([] : List Int)).length = 0 := by simp
          go_wp2_with (at_builtin; first
            | (refine wp_appAll (news := (([] : List Int)).map (Value.int .i64)) (B := w.heap.size) rfl rfl Try.underlying32 info_int rfl (own_empty 3 1 (Nat.le_refl _)) (fun hn => absurd hn (by simp)) ((List.length_map _).trans hlk) rfl rfl (ints_one _) (by unfold maxLen; omega) (by omega) (by simp) ?_; intro v1 w1 ho1 hg1 hf1; have hb1 : Below w.heap.size w w1 := ((Below.refl _ _).alloc (Nat.le_refl _) _).grown hg1 (by simp) (by simp [Value.ownBlock]); have HO1 := Lib.hid (show OwnI w1 w.heap.size v1 (([] : List Int)) by have := ho1; rw [Nat.zero_add] at this; unfold OwnI; rw [hlk]; simpa using this); have hz1 := hb1.size; clear ho1 hg1 hf1)
            | (refine wp_app1 (B := w.heap.size) rfl rfl Try.underlying32 info_int rfl HO1.out rfl rfl rfl (by unfold maxLen; omega) (by omega) hz1 ?_; intro v2 w2 ho2 hg2 hf2; have HO2 := Lib.hid (OwnI.snoc ho2); have hb2 := below_app hb1 HO1.out hg2 (Nat.le_refl _); have hz2 := hb2.size; clear ho2 hg2 hf2)
            | (refine wp_appAll (news := (([] : List Int)).map (Value.int .i64)) (B := w.heap.size) rfl rfl Try.underlying32 info_int rfl HO2.out (fun hn => absurd hn (by simp)) ((List.length_map _).trans hl3) rfl rfl (ints_one _) (by unfold maxLen; omega) (by omega) hz2 ?_; intro v3 w3 ho3 hg3 hf3))
          have hb3 := below_app hb2 HO2.out hg3 (Nat.le_refl _)
          go_ret
          refine ⟨_, rfl, ?_, hb3⟩
          rw [HM.out]
          exact OwnI.ints (OwnI.app (by rw [hl3]; exact ho3))
      · obtain ⟨b, o, rfl, hbl, -⟩ := hrd (by simpa using h0)
        have hc0 : ¬ c = 0 := by omega
        have HH := Lib.hid (H.out.head (k := l.length) (Nat.le_refl _))
        by_cases hck : c = l.length
        · have HT := Lib.hid (H.out.tail (k := l.length) (Nat.le_refl _) (A2 := some ⟨b, o, none⟩) (by rw [if_pos hck]))
          have hlk : (l.take l.length).length = l.length := by simp
          have hl2 : (l.take l.length ++ [n]).length = l.length + 1 := by simp
          have hl3 : (l.drop l.length).length = 0 := by simp
          go_wp2_with (at_builtin; first
            | (refine wp_appAll (news := (l.take l.length).map (Value.int .i64)) (B := w.heap.size) rfl rfl Try.underlying32 info_int rfl (own_empty 3 1 (Nat.le_refl _)) (HH.out.rd.alloc _) ((List.length_map _).trans hlk) rfl rfl (ints_one _) (by unfold maxLen; omega) (by omega) (by simp) ?_; intro v1 w1 ho1 hg1 hf1; have hb1 : Below w.heap.size w w1 := ((Below.refl _ _).alloc (Nat.le_refl _) _).grown hg1 (by simp) (by simp [Value.ownBlock]); have HO1 := Lib.hid (show OwnI w1 w.heap.size v1 (l.take l.length) by have := ho1; rw [Nat.zero_add] at this; unfold OwnI; rw [hlk]; simpa using this); have hz1 := hb1.size; clear ho1 hg1 hf1)
            | (refine wp_app1 (B := w.heap.size) rfl rfl Try.underlying32 info_int rfl HO1.out rfl rfl rfl (by unfold maxLen; omega) (by omega) hz1 ?_; intro v2 w2 ho2 hg2 hf2; have HO2 := Lib.hid (OwnI.snoc ho2); have hb2 := below_app hb1 HO1.out hg2 (Nat.le_refl _); have hz2 := hb2.size; clear ho2 hg2 hf2)
            | (refine wp_appAll (news := (l.drop l.length).map (Value.int .i64)) (B := w.heap.size) rfl rfl Try.underlying32 info_int rfl HO2.out (HT.out.rd.below hb2) ((List.length_map _).trans hl3) rfl rfl (ints_one _) (by unfold maxLen; omega) (by omega) hz2 ?_; intro v3 w3 ho3 hg3 hf3))
          have hb3 := below_app hb2 HO2.out hg3 (Nat.le_refl _)
          go_ret
          refine ⟨_, rfl, ?_, hb3⟩
          rw [HM.out]
          exact OwnI.ints (OwnI.app (by rw [hl3]; exact ho3))
        · have HT := Lib.hid (H.out.tail (k := l.length) (Nat.le_refl _) (A2 := some ⟨b, o + l.length, none⟩) (by rw [if_neg hck, Option.map_some, Addr.add_lit]))
          have hlk : (l.take l.length).length = l.length := by simp
          have hl2 : (l.take l.length ++ [n]).length = l.length + 1 := by simp
          have hl3 : (l.drop l.length).length = 0 := by simp
          go_wp2_with (at_builtin; first
            | (refine wp_appAll (news := (l.take l.length).map (Value.int .i64)) (B := w.heap.size) rfl rfl Try.underlying32 info_int rfl (own_empty 3 1 (Nat.le_refl _)) (HH.out.rd.alloc _) ((List.length_map _).trans hlk) rfl rfl (ints_one _) (by unfold maxLen; omega) (by omega) (by simp) ?_; intro v1 w1 ho1 hg1 hf1; have hb1 : Below w.heap.size w w1 := ((Below.refl _ _).alloc (Nat.le_refl _) _).grown hg1 (by simp) (by simp [Value.ownBlock]); have HO1 := Lib.hid (show OwnI w1 w.heap.size v1 (l.take l.length) by have := ho1; rw [Nat.zero_add] at this; unfold OwnI; rw [hlk]; simpa using this); have hz1 := hb1.size; clear ho1 hg1 hf1)
            | (refine wp_app1 (B := w.heap.size) rfl rfl Try.underlying32 info_int rfl HO1.out rfl rfl rfl (by unfold maxLen; omega) (by omega) hz1 ?_; intro v2 w2 ho2 hg2 hf2; have HO2 := Lib.hid (OwnI.snoc ho2); have hb2 := below_app hb1 HO1.out hg2 (Nat.le_refl _); have hz2 := hb2.size; clear ho2 hg2 hf2)
            | (refine wp_appAll (news := (l.drop l.length).map (Value.int .i64)) (B := w.heap.size) rfl rfl Try.underlying32 info_int rfl HO2.out (HT.out.rd.below hb2) ((List.length_map _).trans hl3) rfl rfl (ints_one _) (by unfold maxLen; omega) (by omega) hz2 ?_; intro v3 w3 ho3 hg3 hf3))
          have hb3 := below_app hb2 HO2.out hg3 (Nat.le_refl _)
          go_ret
          refine ⟨_, rfl, ?_, hb3⟩
          rw [HM.out]
          exact OwnI.ints (OwnI.app (by rw [hl3]; exact ho3))
end Go.Proofs.Ytmccfdaaneemfaa
