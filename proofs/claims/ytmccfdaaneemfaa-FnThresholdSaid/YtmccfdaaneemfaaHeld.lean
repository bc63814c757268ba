/- Contracts of the draws of holders and shares: some short lists in new memory come back. Conditions: the bounds that each names. -/
import Derived.Test.YtmccfdaaneemfaaHol
import Derived.Deep.CutBlock
namespace Go.Proofs.Ytmccfdaaneemfaa
open Go.RowKit
set_option linter.unusedVariables false
set_option maxHeartbeats 2000000
section
variable {w : World} {g n : Nat} {cd : Value}
theorem tmod_small {p : Int} (x : Int) (hp : 2 ≤ p ∧ p ≤ 251) : -1000 ≤ x.tmod p ∧ x.tmod p ≤ 1000 := by have := tmod_bd x (show 0 < p by omega); omega
theorem grown_drew {w w' : World} {r : Option Nat} (h : w.drew.grownBy w' r) : w.grownBy w' r := ⟨h.os, h.tape, h.output, h.size, h.block⟩
theorem Cur.drew {n : Nat} (h : Cur w g cd n) : Cur w.drew g cd n := h
/-- Two short lists in new memory, behind draws. -/
def HeldS (w : World) (g : Nat) (cd : Value) (n : Nat) (sx sy : Value) (wx : World) : Prop := ∃ X Y, OwnI wx w.heap.size sx X ∧ OwnI wx w.heap.size sy Y ∧ Sm X ∧ Sm Y ∧ Cur wx g cd n ∧ w.grownBy wx (some g)
theorem HeldS.swap {sx sy : Value} {wx : World} (h : HeldS w g cd n sx sy wx) : HeldS w g cd n sy sx wx := by
  obtain ⟨X, Y, a, b, c, d, e, f⟩ := h; exact ⟨Y, X, b, a, d, c, e, f⟩
theorem HeldS.put {w1 : World} {sx : Value} {X Y : List Int} {gy m cy : Nat} (h0 : CodeIn w cd g) (hg : g < w.heap.size) (hX : OwnI w1 w.heap.size sx X) (hY : OwnI w1 w.heap.size (.slice (some ⟨gy, 0, none⟩) m cy) Y) (hne : ∀ b, sx.ownBlock = some b → b ≠ gy) (sX : Sm X) (sY : Sm Y) (hc : Cur w1 g cd n) (hw : w.grownBy w1 (some g)) (j : Nat) {v : Int} (hv : -1000 ≤ v ∧ v ≤ 1000) :
    HeldS w g cd n sx (.slice (some ⟨gy, 0, none⟩) m cy) (w1.setCell ⟨gy, j, none⟩ (.int .i64 v)) := by
  have hge := hY.blk.1
  have h1 := Cur.app h0 hc hw (grown_set w1 ⟨gy, j, none⟩ (.int .i64 v)) (fun k hk => by injection hk with hk; subst hk; exact hge) hg
  exact ⟨X, Y.set j v, hX.far (p := ⟨gy, j, none⟩) hne _, hY.put j v, sX, sY.put j hv, h1.1, h1.2⟩
set_option maxRecDepth 100000 in
theorem c_held (h : Cur w g cd n) (hn : n ≤ 10000000) : Calls Try.prog 113 #[.pointer (some ⟨g, 0, none⟩)] w fun e w' => ∃ (p t : Int) (u v : Value) (xs ys : List Int), e = .returned (.tuple #[.int .i64 p, u, v, .int .i64 t]) ∧ (2 ≤ p ∧ p ≤ 251) ∧ Sm xs ∧ Sm ys ∧ OwnI w' w.heap.size u xs ∧ OwnI w' w.heap.size v ys ∧ Cur w' g cd (n + 200) ∧ w.grownBy w' (some g) := by
  have hgl := h.lt
  have HCD := Lib.hid h.1
  go_enter Try.func113, Try.ntmps113
  go_wp2_with fail
  refine (c_among (l := [5, 7, 11, 13, 101, 251]) (h.below ((Below.refl _ _).alloc (Nat.le_refl _) _)) (by omega) (ints_lit _ _ _ rfl (by simp)) (by simp) (by simp) (by rintro b hb; simp [Value.ownBlock] at hb; omega)).mono ?_
  rintro e w1 ⟨v, rfl, ⟨p, rfl, hp⟩, hc1, hg1⟩
  have hpb : 5 ≤ p ∧ p ≤ 251 := by simp at hp; omega
  have HG1 := Lib.hid (only_trans (only_below ((Below.refl _ _).alloc (Nat.le_refl _) _) (some g)) hg1)
  clear h hg1 hp
  have hml : (if p - 1 < 7 then p - 1 else 7) ≤ 7 ∧ 1 ≤ (if p - 1 < 7 then p - 1 else 7) := by split <;> omega
  go_wp2_with fail
  refine (c_spec_l1Least).mono ?_
  rintro e w' ⟨rfl, rfl⟩
  generalize (if p - 1 < 7 then p - 1 else 7) = m at *
  go_wp2_with fail
  refine (c_pick hc1 (by omega) (by omega)).mono ?_
  rintro e w2 ⟨v, rfl, ⟨r, rfl, hr0, -, hr1⟩, hc2, hg2⟩
  have HG2 := Lib.hid (only_trans HG1.out hg2)
  clear hc1 HG1 hg2
  obtain ⟨N, hN⟩ : ∃ N : Nat, 1 + r = (N : Int) := ⟨(1 + r).toNat, by omega⟩
  have hNb : 1 ≤ N ∧ N ≤ 7 := by omega
  have HNr := Lib.hid hN
  go_wp2_with fail
  refine (c_pick hc2 (by omega) (by omega)).mono ?_
  rintro e w3 ⟨v, rfl, ⟨s, rfl, hs0, -, hs1⟩, hc3, hg3⟩
  have HG3 := Lib.hid (only_trans HG2.out hg3)
  clear hc2 HG2 hg3
  obtain ⟨T, hT⟩ : ∃ N : Nat, 1 + s = (N : Int) := ⟨(1 + s).toNat, by omega⟩
  have hTb : 1 ≤ T ∧ T ≤ 7 := by omega
  go_wp2_with fail
  refine (c_pick hc3 (by omega) (by omega)).mono ?_
  rintro e w4 ⟨v, rfl, ⟨key, rfl, hk0, -, hk1⟩, hc4, hg4⟩
  have HG4 := Lib.hid (only_trans HG3.out hg4)
  clear hc3 HG3 hg4
  go_wp2_with fail
  refine (c_pick hc4 (by omega) (by omega)).mono ?_
  rintro e w5 ⟨v, rfl, ⟨val, rfl, hv0, -, hv1⟩, hc5, hg5⟩
  have HG5 := Lib.hid (only_trans HG4.out hg5)
  have hz5 := HG5.out.size
  clear hc4 HG4 hg5
  go_wp2_with fail
  refine (c_spec_thSplit (n := N) (t := T) (by omega) (by omega) (by omega) (by omega) (by omega)).mono ?_
  rintro e w6 ⟨u, rfl, hu, hb6⟩
  have HY := Lib.hid (hu.mono hz5)
  have HB6 := Lib.hid hb6
  have HYS := Lib.hid (splitN_sm (p := p) (by omega) (coefN p key val (T - 1)) (show N ≤ 12 by omega))
  have HYB := Lib.hid (splitN_bd (p := p) (by omega) (coefN p key val (T - 1)) N)
  have hyl := splitN_length p (coefN p key val (T - 1)) N
  generalize splitN p (coefN p key val (T - 1)) N = Y at *
  have hYN : 0 < Y.length := by omega
  have HYL := Lib.hid hyl
  have HG6 := Lib.hid (only_trans HG5.out (only_below hb6 (some g)))
  have HC6 := Lib.hid (hc5.below hb6)
  obtain ⟨gy, cy, rfl, -, hgy, -, -⟩ := own_pos hu (by omega)
  rw [hyl] at HY ⊢
  clear hu hb6 hc5 HG5 hyl
  go_wp2
  go_loopw [10, 11] (fun u i wr => ∃ k : Nat, k ≤ N ∧ i = .int .i64 ((k : Int) + 1) ∧ Hid (OwnI wr w6.heap.size u (rngN k)) ∧ Hid (Below w6.heap.size w6 wr)) (fun _ i _ => N + 1 - (intOf i).toNat)
  case atStart => exact ⟨0, Nat.zero_le _, rfl, Lib.hid (OwnI.nil _ _), Lib.hid (Below.refl _ _)⟩
  case round =>
    obtain ⟨k, hk, rfl, HO, HB⟩ := hrel
    obtain ⟨wa, rfl⟩ : ∃ W, W = wr := ⟨wr, rfl⟩
    have hrl := rngN_length k
    have hsz := HB.out.size
    by_cases hlt : k < N
    · have HSN := Lib.hid (rngN_snoc k)
      have hk0 : (0 : Int) ≤ (k : Int) := Int.natCast_nonneg _
      have hrl2 : (rngN k).length ≤ 12 := by omega
      clear hrl
      go_wp2_with (at_builtin; refine wp_app1 (B := w6.heap.size) rfl rfl Try.underlying32 info_int rfl HO.out rfl rfl rfl (by unfold maxLen; omega) (by omega) hsz ?_; intro v' w9 ho hg hfr)
      have HB9 := Lib.hid (below_app HB.out HO.out hg (Nat.le_refl _))
      go_roundw
      case rel => exact ⟨k + 1, by omega, by go_num, by rw [HSN.out]; exact Lib.hid (OwnI.snoc ho), HB9⟩
      case measure => simp [intOf]; omega
    · obtain rfl : k = N := by omega
      have hkk : ¬ ((k : Int) + 1 ≤ (k : Int)) := by omega
      have HXS := Lib.hid (rngN_sm (k := k) (by omega))
      have hs6 : w.heap.size ≤ w6.heap.size := HG6.out.size
      have HX := Lib.hid (HO.out.mono hs6)
      have hxge := HO.out.ge
      replace HY := Lib.hid (HY.out.below HB.out)
      have HC7 := Lib.hid (HC6.out.below HB.out)
      have HG7 := Lib.hid (only_trans HG6.out (only_below HB.out (some g)))
      have hgx : gy < w6.heap.size := hgy
      clear HO HC6 HG6 HB6
      generalize hxs : rngN k = X at *
      have HXL := Lib.hid (show X.length = k by omega)
      clear hxs hrl
      obtain ⟨gx, cx, eX, -, hgxl, -, -⟩ := own_pos HX.out (by have := HXL.out; omega)
      subst eX
      have hxy : gx ≠ gy := by have := hxge gx rfl; omega
      clear hxge hgx hgy
      have HX7 := Lib.hid (show HeldS w g cd (n + 30) (.slice (some ⟨gx, 0, none⟩) X.length cx) (.slice (some ⟨gy, 0, none⟩) k cy) wa from ⟨X, Y, HX.out, HY.out, HXS.out, HYS.out, HC7.out.mono (by omega), HG7.out⟩)
      have hpb2 : 2 ≤ p ∧ p ≤ 251 := by omega
      have hX1 : 1 ≤ X.length := by have := HXL.out; omega
      clear hlt hk hkk HX7
      go_upto_block 2 with fail
      refine (c_pick HC7.out (by omega) (by omega)).mono ?_
      rintro e w8 ⟨v, rfl, ⟨q, rfl, hq0, -, hq1⟩, hc8, hg8⟩
      have HC8 := Lib.hid hc8
      have HX8 := Lib.hid (own_app HX.out hgl hg8)
      have HY8 := Lib.hid (own_app HY.out hgl hg8)
      have HG8 := Lib.hid (only_trans HG7.out hg8)
      clear HC7 HG7 hc8 hg8 HX HY HB
      go_upto_block 2 with fail
      go_cut [9, 10] (fun sy sx wx => Hid (HeldS w g cd (n + 30) sx sy wx))
      case first =>
        by_cases h01 : q = 0 ∨ q = 1
        · rcases h01 with rfl | rfl
          all_goals
            go_wp2_with fail
            refine (c_pick HC8.out (by omega) (by omega)).mono ?_
            rintro e w9 ⟨v, rfl, ⟨t, rfl, ht0, -, ht1⟩, hc9, hg9⟩
            have HC9 := Lib.hid (hc9.mono (show _ ≤ n + 26 by omega))
            have HPK := Lib.hid (fun (W : World) (h : Cur W g cd (n + 26)) => c_pick (w := W) (m := p - 1) h (by omega) (by omega))
            have HX9 := Lib.hid (own_app HX8.out hgl hg9)
            have HY9 := Lib.hid (own_app HY8.out hgl hg9)
            have HG9 := Lib.hid (only_trans HG8.out hg9)
            clear HC8 HG8 hc9 hg9 HX8 HY8
            obtain ⟨j, rfl⟩ := Int.eq_ofNat_of_zero_le ht0
            have hj0 : (0 : Int) ≤ (j : Int) := Int.natCast_nonneg _
            have hjk : (j : Int) < (k : Int) := by omega
            have hjy : j < Y.length := by have := HYL.out; omega
            obtain ⟨y, hy⟩ : ∃ y, Y[j]? = some y := ⟨_, List.getElem?_eq_getElem hjy⟩
            have HYK := Lib.hid hy
            have hyb := HYB.out y (List.mem_of_getElem? hy)
            have y9 := HY9.out.rd hy
            have hp0 : ¬ p = 0 := by omega
            have hm10 : IntKind.i64.wrap (p - 1) = p - 1 := IntWalk.i64_in _ (by omega)
            clear hy
            go_wp2_with fail
            go_region_law (go_simp; go_at_call 77; (with_reducible refine (HPK.out _ HC9.out.drew).mono ?_); rintro e w10 ⟨v, rfl, ⟨t2, rfl, hs0, -, hs1⟩, hc10, hg10⟩; replace hg10 := grown_drew hg10; have y10 := (own_app HY9.out hgl hg10).rd HYK.out; have f10 := (own_app HY9.out hgl hg10).free j; have HX10 := Lib.hid (own_app HX9.out hgl hg10); have HY10 := Lib.hid (own_app HY9.out hgl hg10); have HC10 := Lib.hid hc10; have HG10 := Lib.hid (only_trans HG9.out hg10); clear hc10 hg10)
            all_goals
              clear hm10
              go_wp2
              go_meet
              exact Lib.hid ((HeldS.put HCD.out hgl HX10.out HY10.out (by rintro b hb; simp [Value.ownBlock] at hb; omega) HXS.out HYS.out (HC10.out.mono (by omega)) HG10.out j (tmod_small _ hpb2)))
        · have hq01 : ¬ q = 0 ∧ ¬ q = 1 := by omega
          clear h01
          by_cases h2 : q = 2
          · subst h2
            have HC9 := Lib.hid (HC8.out.mono (show _ ≤ n + 30 by omega))
            have hcx : X.length ≤ cx := by obtain ⟨A, c', e, h1, -⟩ := HX8.out.ints; injection e with _ _ e3; omega
            have hcy : Y.length ≤ cy := by obtain ⟨A, c', e, h1, -⟩ := HY8.out.ints; injection e with _ _ e3; omega
            have hkx : (k : Int) - 1 ≤ (cx : Int) := by have := HXL.out; omega
            have hky : (k : Int) - 1 ≤ (cy : Int) := by have := HYL.out; omega
            have hk0 : (0 : Int) ≤ (k : Int) - 1 := by omega
            clear HC8
            go_wp2
            go_meet
            exact Lib.hid ⟨_, _, HX8.out.cut (by have := HXL.out; omega), HY8.out.cut (by have := HYL.out; omega), HXS.out.head _, HYS.out.head _, HC9.out, HG8.out⟩
          · by_cases h3 : q = 3
            · subst h3
              go_wp2_with fail
              refine (c_one HC8.out (by omega) (by omega)).mono ?_
              rintro e w9 ⟨v, rfl, ⟨b, rfl⟩, hc9, hg9⟩
              have HC9 := Lib.hid (hc9.mono (show _ ≤ n + 26 by omega))
              have HX9 := Lib.hid (own_app HX8.out hgl hg9)
              have HY9 := Lib.hid (own_app HY8.out hgl hg9)
              have HG9 := Lib.hid (only_trans HG8.out hg9)
              clear HC8 HG8 hc9 hg9 HX8 HY8
              cases b
              · go_wp2
                go_meet
                exact Lib.hid ⟨X, Y, HX9.out, HY9.out, HXS.out, HYS.out, HC9.out.mono (by omega), HG9.out⟩
              · go_wp2_with fail
                refine (c_pick HC9.out (by omega) (by omega)).mono ?_
                rintro e w10 ⟨v, rfl, ⟨t, rfl, ht0, -, ht1⟩, hc10, hg10⟩
                have HX10 := Lib.hid (own_app HX9.out hgl hg10)
                have HY10 := Lib.hid (own_app HY9.out hgl hg10)
                have HG10 := Lib.hid (only_trans HG9.out hg10)
                have hgl10 : g < w10.heap.size := hc10.lt
                clear HC9 HG9 hg10 HX9 HY9
                obtain ⟨j, rfl⟩ := Int.eq_ofNat_of_zero_le ht0
                have hj0 : (0 : Int) ≤ (j : Int) := Int.natCast_nonneg _
                have hjx : (j : Int) < (X.length : Int) := by have := HXL.out; omega
                have HB10 := Lib.hid (((Below.refl w10.heap.size w10).alloc (Nat.le_refl _) (.cells #[.int .i64 0, .int .i64 1, .int .i64 p] 3)))
                go_wp2_with fail
                refine (c_among (l := [0, 1, p]) (hc10.below HB10.out) (by omega) (ints_lit _ _ _ rfl (by simp)) (by simp) (by simp) (by rintro b hb; simp [Value.ownBlock] at hb; omega)).mono ?_
                rintro e w11 ⟨v, rfl, ⟨x, rfl, hx⟩, hc11, hg11⟩
                have hx2 : -1000 ≤ x ∧ x ≤ 1000 := by simp at hx; omega
                have HX11 := Lib.hid (own_app (HX10.out.below HB10.out) hgl hg11)
                have HY11 := Lib.hid (own_app (HY10.out.below HB10.out) hgl hg11)
                have HG11 := Lib.hid (only_trans HG10.out (only_trans (only_below HB10.out (some g)) hg11))
                have HC11 := Lib.hid (hc11.mono (show _ ≤ n + 30 by omega))
                have f11 := HX11.out.free j
                obtain ⟨z, hz⟩ : ∃ y, X[j]? = some y := ⟨_, List.getElem?_eq_getElem (by omega)⟩
                have x11 := HX11.out.rd hz
                clear hz hc10 hc11 hg11 hx HX10 HY10 HG10
                go_wp2
                go_meet
                exact Lib.hid ((HeldS.put HCD.out hgl HY11.out HX11.out (by rintro b hb; simp [Value.ownBlock] at hb; omega) HYS.out HXS.out HC11.out HG11.out j hx2).swap)
            · go_wp2
              go_meet
              exact Lib.hid ⟨X, Y, HX8.out, HY8.out, HXS.out, HYS.out, HC8.out.mono (by omega), HG8.out⟩
      case rest =>
        obtain ⟨wm, hwm⟩ : ∃ W, wc = W := ⟨_, rfl⟩
        rw [hwm] at hcut ⊢
        clear hwm
        obtain ⟨X1, Y1, hX1', hY1', sX1, sY1, hc1', hg1'⟩ := hcut.out
        have HO1 := Lib.hid (And.intro hX1' hY1')
        have HS1 := Lib.hid (And.intro sX1 sY1)
        replace hg1' := Lib.hid hg1'
        clear hcut HXS HYS HXL HYL HYB hX1' hY1' sX1 sY1 HX8 HY8
        go_wp2_with fail
        refine (c_one hc1' (by omega) (by omega)).mono ?_
        rintro e w8' ⟨v, rfl, ⟨b, rfl⟩, hc2, hg2⟩
        have HO2 := Lib.hid (And.intro (own_app HO1.out.1 hgl hg2) (own_app HO1.out.2 hgl hg2))
        have HG2 := Lib.hid (only_trans hg1'.out hg2)
        clear HO1 hc1' hg1' hg2
        go_upto_if 92 with fail
        go_cut [8] (fun st wx => ∃ t : Int, st = .int .i64 t ∧ Hid (HeldS w g cd (n + 50) u10 u9 wx))
        case first =>
          cases b
          · go_wp2
            go_meet
            exact ⟨_, rfl, Lib.hid ⟨_, _, HO2.out.1, HO2.out.2, HS1.out.1, HS1.out.2, hc2.mono (by omega), HG2.out⟩⟩
          · have HB10 := Lib.hid (((Below.refl w8'.heap.size w8').alloc (Nat.le_refl _) (.cells #[.int .i64 0, .int .i64 ((k : Int) + 1)] 3)))
            have hgl10 : g < w8'.heap.size := hc2.lt
            go_wp2_with fail
            refine (c_among (l := [0, (k : Int) + 1]) (hc2.below HB10.out) (by omega) (ints_lit _ _ _ rfl (by simp)) (by simp) (by simp) (by rintro b hb; simp [Value.ownBlock] at hb; omega)).mono ?_
            rintro e w11 ⟨v, rfl, ⟨x, rfl, -⟩, hc11, hg11⟩
            have HX11 := Lib.hid (own_app (HO2.out.1.below HB10.out) hgl hg11)
            have HY11 := Lib.hid (own_app (HO2.out.2.below HB10.out) hgl hg11)
            have HG11 := Lib.hid (only_trans HG2.out (only_trans (only_below HB10.out (some g)) hg11))
            have HC11 := Lib.hid (hc11.mono (show _ ≤ n + 50 by omega))
            clear hc2 hc11 hg11
            go_wp2
            go_meet
            exact ⟨_, rfl, Lib.hid ⟨_, _, HX11.out, HY11.out, HS1.out.1, HS1.out.2, HC11.out, HG11.out⟩⟩
        case rest =>
          obtain ⟨t1, rfl, hcut⟩ := hcut
          obtain ⟨wn, hwm⟩ : ∃ W, wc = W := ⟨_, rfl⟩
          rw [hwm] at hcut ⊢
          obtain ⟨X2, Y2, hX2, hY2, sX2, sY2, hc2', hg2'⟩ := hcut.out
          have HO3 := Lib.hid (And.intro hX2 hY2)
          have HS3 := Lib.hid (And.intro sX2 sY2)
          have HG3' := Lib.hid hg2'
          clear hwm hcut hX2 hY2 sX2 sY2 hg2' HO2 HS1 HG2 hc2
          go_wp2_with fail
          refine (c_one hc2' (by omega) (by omega)).mono ?_
          rintro e w9 ⟨v, rfl, ⟨b3, rfl⟩, hc3, hg3⟩
          have HO4 := Lib.hid (And.intro (own_app HO3.out.1 hgl hg3) (own_app HO3.out.2 hgl hg3))
          have HG4 := Lib.hid (only_trans HG3'.out hg3)
          clear HO3 hc2' HG3' hg3
          go_upto_if 99 with fail
          go_cut [6, 8, 9, 10] (fun sp st sy sx wx => ∃ p' t' : Int, sp = .int .i64 p' ∧ st = .int .i64 t' ∧ Hid (2 ≤ p' ∧ p' ≤ 251) ∧ Hid (HeldS w g cd (n + 200) sx sy wx))
          case first =>
            cases b3
            · go_wp2
              go_meet
              exact ⟨_, _, rfl, rfl, Lib.hid hpb2, Lib.hid ⟨_, _, HO4.out.1, HO4.out.2, HS3.out.1, HS3.out.2, hc3.mono (by omega), HG4.out⟩⟩
            · clear HO4 HS3 HC8
              go_wp2_with fail
              refine (c_pick hc3 (by omega) (by omega)).mono ?_
              rintro e x1 ⟨v, rfl, ⟨a1, rfl, ha0, -, ha1⟩, hd1, hg1⟩
              obtain ⟨T2, hT2⟩ : ∃ N : Nat, 1 + a1 = (N : Int) := ⟨(1 + a1).toNat, by omega⟩
              have hT2b : 1 ≤ T2 ∧ T2 ≤ 8 := by omega
              have HE1 := Lib.hid (only_trans HG4.out hg1)
              clear HG4 hg1 hc3
              go_wp2_with fail
              refine (c_pick hd1 (by omega) (by omega)).mono ?_
              rintro e x2 ⟨v, rfl, ⟨key2, rfl, hb0, -, hb1⟩, hd2, hg2⟩
              have HE2 := Lib.hid (only_trans HE1.out hg2)
              clear HE1 hg2 hd1
              go_wp2_with fail
              refine (c_pick hd2 (by omega) (by omega)).mono ?_
              rintro e x3 ⟨v, rfl, ⟨val2, rfl, hc0, -, hc1⟩, hd3, hg3⟩
              have HE3 := Lib.hid (only_trans HE2.out hg3)
              clear HE2 hg3 hd2
              go_wp2_with fail
              refine (c_pick hd3 (by omega) (by omega)).mono ?_
              rintro e x4 ⟨v, rfl, ⟨a4, rfl, hf0, -, hf1⟩, hd4, hg4⟩
              have HE4 := Lib.hid (only_trans HE3.out hg4)
              obtain ⟨N2, hN2⟩ : ∃ N : Nat, 10 + a4 = (N : Int) := ⟨(10 + a4).toNat, by omega⟩
              have hN2b : 10 ≤ N2 ∧ N2 ≤ 11 := by omega
              have hz4 := HE4.out.size
              have HN2 := Lib.hid hN2
              clear HE3 hg4 hd3
              go_wp2_with fail
              refine (c_spec_thSplit (p := 101) (n := N2) (t := T2) (by omega) (by omega) (by omega) (by omega) (by omega)).mono ?_
              rintro e x5 ⟨u, rfl, hu, hb5⟩
              have hyl := splitN_length 101 (coefN 101 key2 val2 (T2 - 1)) N2
              have HYS := Lib.hid (splitN_sm (p := 101) (by omega) (coefN 101 key2 val2 (T2 - 1)) (show N2 ≤ 12 by omega))
              have HYB := Lib.hid (splitN_bd (p := 101) (by omega) (coefN 101 key2 val2 (T2 - 1)) N2)
              generalize splitN 101 (coefN 101 key2 val2 (T2 - 1)) N2 = Y3 at *
              have HY := Lib.hid (hu.mono hz4)
              have HG5 := Lib.hid (only_trans HE4.out (only_below hb5 (some g)))
              have HC5 := Lib.hid (hd4.below hb5)
              obtain ⟨ey, hey, rfl, -, heyl, -, -⟩ := own_pos hu (by omega)
              rw [hyl] at HY ⊢
              have HYL := Lib.hid hyl
              clear hu hb5 hd4 HE4 hyl hN2
              go_wp2
              go_loopw [10, 116] (fun u i wr => ∃ j : Nat, j ≤ N2 ∧ i = .int .i64 (j : Int) ∧ Hid (OwnI wr x5.heap.size u (rngN j)) ∧ Hid (Below x5.heap.size x5 wr)) (fun _ i _ => N2 - (intOf i).toNat)
              case atStart => exact ⟨0, Nat.zero_le _, rfl, Lib.hid (OwnI.nil _ _), Lib.hid (Below.refl _ _)⟩
              case round =>
                obtain ⟨j, hj, rfl, HO, HB⟩ := hrel
                obtain ⟨wb, rfl⟩ : ∃ W, W = wr := ⟨wr, rfl⟩
                have hrl := rngN_length j
                have hsz := HB.out.size
                by_cases hlt : j < N2
                · have HSN := Lib.hid (rngN_snoc j)
                  have hj0 : (0 : Int) ≤ (j : Int) := Int.natCast_nonneg _
                  have hrl2 : (rngN j).length ≤ 12 := by omega
                  clear hrl
                  go_wp2_with (at_builtin; refine wp_app1 (B := x5.heap.size) rfl rfl Try.underlying32 info_int rfl HO.out rfl rfl rfl (by unfold maxLen; omega) (by omega) hsz ?_; intro v' w9 ho hg hfr)
                  have HB9 := Lib.hid (below_app HB.out HO.out hg (Nat.le_refl _))
                  go_roundw
                  case rel => exact ⟨j + 1, by omega, by go_num, by rw [HSN.out]; exact Lib.hid (OwnI.snoc ho), HB9⟩
                  case measure => simp [intOf]; omega
                · obtain rfl : j = N2 := by omega
                  have HXS := Lib.hid (rngN_sm (k := j) (by omega))
                  have hs6 : w.heap.size ≤ x5.heap.size := HG5.out.size
                  have HX := Lib.hid (HO.out.mono hs6)
                  have hxge := HO.out.ge
                  replace HY := Lib.hid (HY.out.below HB.out)
                  have HC7 := Lib.hid (HC5.out.below HB.out)
                  have HG7 := Lib.hid (only_trans HG5.out (only_below HB.out (some g)))
                  generalize hxs : rngN j = X3 at *
                  have HXL := Lib.hid (show X3.length = j by omega)
                  clear hxs hrl HO HC5 HG5
                  obtain ⟨ex, ecx, eX, -, hgxl, -, -⟩ := own_pos HX.out (by have := HXL.out; omega)
                  subst eX
                  have hexy : ex ≠ ey := by have := hxge ex rfl; omega
                  clear hxge
                  go_wp2_with fail
                  refine (c_one HC7.out (by omega) (by omega)).mono ?_
                  rintro e x8 ⟨v, rfl, ⟨b4, rfl⟩, hd8, hg8⟩
                  have HX8 := Lib.hid (own_app HX.out hgl hg8)
                  have HY8 := Lib.hid (own_app HY.out hgl hg8)
                  have HC8 := Lib.hid (hd8.mono (show _ ≤ n + 200 by omega))
                  have HG8 := Lib.hid (only_trans HG7.out hg8)
                  clear HC7 HG7 hd8 hg8 HX HY
                  cases b4
                  · go_wp2
                    go_meet
                    exact ⟨_, _, rfl, rfl, Lib.hid (by omega), Lib.hid ⟨_, _, HX8.out, HY8.out, HXS.out, HYS.out, HC8.out, HG8.out⟩⟩
                  · obtain ⟨z, hz⟩ : ∃ y, Y3[2]? = some y := ⟨_, List.getElem?_eq_getElem (by have := HYL.out; omega)⟩
                    have hzb := HYB.out z (List.mem_of_getElem? hz)
                    have x2c := HY8.out.rd hz
                    have f2c := HY8.out.free 2
                    have hmm := mod_bd (z + 1) (p := 101) (by omega)
                    clear hz
                    go_wp2
                    go_meet
                    exact ⟨_, _, rfl, rfl, Lib.hid (by omega), Lib.hid (HeldS.put HCD.out hgl HX8.out HY8.out (by rintro b hb; simp [Value.ownBlock] at hb; omega) HXS.out HYS.out HC8.out HG8.out 2 (by omega))⟩
          case rest =>
            obtain ⟨p', t', rfl, rfl, HP, hcut⟩ := hcut
            obtain ⟨wo, hwm⟩ : ∃ W, wc = W := ⟨_, rfl⟩
            rw [hwm] at hcut ⊢
            obtain ⟨X4, Y4, hX4, hY4, sX4, sY4, hc4, hg4⟩ := hcut.out
            have HF := Lib.hid (And.intro sX4 (And.intro sY4 (And.intro hX4 (And.intro hY4 (And.intro hc4 hg4)))))
            clear hwm hcut hX4 hY4 sX4 sY4 hc4 hg4
            go_wp2
            ((try simp only [Exit.inBlock, Exit.then]); refine bodyPost_ret (results_tmp4 rfl _ _ _) rfl ?_)
            exact ⟨_, _, _, _, _, _, rfl, HP.out, HF.out.1, HF.out.2.1, HF.out.2.2.1, HF.out.2.2.2.1, HF.out.2.2.2.2.1, HF.out.2.2.2.2.2⟩
end
end Go.Proofs.Ytmccfdaaneemfaa
