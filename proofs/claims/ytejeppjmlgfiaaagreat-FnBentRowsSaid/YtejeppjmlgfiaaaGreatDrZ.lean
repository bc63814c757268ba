/- The contract of the draw of inputs: two short lists in new memory come back. Conditions: the bounds that each names. -/
import Derived.Test.YtejeppjmlgfiaaaGreatDrY
import Derived.Test.YtejeppjmlgfiaaaGreatDrW
namespace Go.Proofs.YtejeppjmlgfiaaaGreat
open Go.RowKit
set_option linter.unusedVariables false
set_option maxHeartbeats 4000000
section
variable {w : World} {g n : Nat} {cd : Value}
/-- Behind draws. -/
structure DrS (w : World) (g : Nat) (cd : Value) (n : Nat) (wr : World) : Prop where
  cur : Cur wr g cd n
  grown : w.grownBy wr (some g)
theorem DrS.bits {wr : World} {k : Int} (h : DrS w g cd n wr) (hn : n ≤ 100000000) (hk : k ≤ 600) : Calls Tryz.prog 122 #[.pointer (some ⟨g, 0, none⟩), .int .i64 k] wr fun e w' => ∃ A c l, e = .returned (.slice A l.length c) ∧ Le 600 l ∧ OwnI w' wr.heap.size (.slice A l.length c) l ∧ DrS w g cd (n + 2400) w' ∧ wr.grownBy w' (some g) :=
  (c_bitsI h.cur hn hk).mono fun e w' ⟨u, l, e1, hl, ho, hc, hg⟩ => by
    obtain ⟨A, c, rfl, -⟩ := own_form ho
    exact ⟨A, c, l, e1, hl, ho, ⟨hc, only_trans h.grown hg⟩, hg⟩
theorem least30 {i : Int} {w : World} (h : i ≤ 21) : Calls Tryz.prog 123 #[.int .i64 i, .int .i64 30] w fun e w' => e = .returned (.int .i64 i) ∧ w = w' := by
  have := c_spec_l1Least (a := i) (b := 30) (w := w)
  rwa [if_pos (by omega)] at this
/-- Two lists in new memory, behind draws. -/
def TwoS (w : World) (g : Nat) (cd : Value) (n k : Nat) (u v : Value) (wx : World) : Prop := ∃ a b, a.length ≤ k ∧ b.length ≤ k ∧ OwnI wx w.heap.size u a ∧ OwnI wx w.heap.size v b ∧ DrS w g cd n wx
def AptS (w : World) (g : Nat) (cd : Value) (n k : Nat) (u v : Value) (wx : World) : Prop := ∃ a b, a.length ≤ k ∧ b.length ≤ k ∧ OwnI wx w.heap.size u a ∧ OwnI wx w.heap.size v b ∧ Apt u v ∧ DrS w g cd n wx
/-- Two lists, one drawn behind the other. -/
theorem two_apt {w0 w1 w2 : World} {u v : Value} {a b : List Int} (hgl : g < w.heap.size) (h0 : w.heap.size ≤ w0.heap.size) (ha : OwnI w1 w0.heap.size u a) (h01 : w0.grownBy w1 (some g)) (hb : OwnI w2 w1.heap.size v b) (hg : w1.grownBy w2 (some g)) : OwnI w2 w.heap.size u a ∧ OwnI w2 w.heap.size v b ∧ Apt u v ∧ Apt v u := by
  have h1 : Apt u v := Apt.ofLt (fun k hk => ha.lt k hk) (fun k hk => hb.ge k hk)
  exact ⟨own_app (ha.mono h0) hgl hg, hb.mono (Nat.le_trans h0 h01.size), h1, h1.symm⟩
set_option maxRecDepth 100000 in
theorem c_inputs {i0 i1 : Int} {Ag Ao : Option Addr} {gl cg ol co : Nat} (h : Cur w g cd n) (hn : n ≤ 10000000) (hi0 : i0 ≤ 21) (hi1 : i1 ≤ 21) :
    Calls Tryz.prog 53 #[.pointer (some ⟨g, 0, none⟩), .agg #[.int .i64 i0, .int .i64 i1, .slice Ag gl cg, .slice Ao ol co]] w fun e w' => ∃ u v, e = .returned (.tuple #[u, v]) ∧ TwoS w g cd (n + 5000) 601 u v w' := by
  have hgl := h.lt
  have HCD := Lib.hid h.1
  have HK := Lib.hid (Blk.new w 26 #[.int .i64 i0, .int .i64 i1, .slice Ag gl cg, .slice Ao ol co])
  have hB := (Below.refl w.heap.size w).alloc (Nat.le_refl _) (.cells #[.int .i64 i0, .int .i64 i1, .slice Ag gl cg, .slice Ao ol co] 26)
  have hz0 : w.heap.size ≤ (w.alloc (.cells #[.int .i64 i0, .int .i64 i1, .slice Ag gl cg, .slice Ao ol co] 26)).heap.size := hB.size
  have h1 := h.below hB
  have hD0 : DrS w g cd n (w.alloc (.cells #[.int .i64 i0, .int .i64 i1, .slice Ag gl cg, .slice Ao ol co] 26)).drew := ⟨h1.drew, only_drewN (only_below hB (some g)) 1⟩
  have HZ := Lib.hid hz0
  clear h h1 hB hz0
  go_enter Tryz.func53, Tryz.ntmps53
  go_upto_region 1 with fail
  go_cut [6, 7] (fun u v wx => Hid (AptS w g cd (n + 4800) 600 u v wx))
  case first =>
    go_region_held3 (fun w' => w'.cell? ⟨w.heap.size, 0, none⟩ = some (.int .i64 i0) ∧ w'.cell? ⟨w.heap.size, 1, none⟩ = some (.int .i64 i1))
      (first | exact ⟨HKB.out.cell 0, HKB.out.cell 1⟩ | exact ⟨HKA.out.cell 0, HKA.out.cell 1⟩ | exact ⟨HK.out.drew.cell 0, HK.out.drew.cell 1⟩)
      (first
        | (go_at_call 123; (first | refine (least30 hi0).mono ?_ | refine (least30 hi1).mono ?_); rintro e w' ⟨rfl, rfl⟩)
        | (go_at_call_of 122 (Value.int IntKind.i64 i0); (first | (with_reducible refine (DrS.bits hDB (by omega) (by omega)).mono ?_) | (with_reducible refine (DrS.bits hD0 (by omega) (by omega)).mono ?_)); rintro e wA ⟨A1, k1, a, rfl, ha, hoa, hDA, hgA⟩; (first | have HKA := Lib.hid (HKB.out.grown hgA (by simp; omega)) | have HKA := Lib.hid (HK.out.drew.grown hgA (by simp; omega))))
        | (go_at_call_of 122 (Value.int IntKind.i64 i1); (first | (with_reducible refine (DrS.bits hDA (by omega) (by omega)).mono ?_) | (with_reducible refine (DrS.bits hD0 (by omega) (by omega)).mono ?_)); rintro e wB ⟨A2, k2, b, rfl, hb, hob, hDB, hgB⟩; (first | have HKB := Lib.hid (HKA.out.grown hgB (by simp; omega)) | have HKB := Lib.hid (HK.out.drew.grown hgB (by simp; omega)))))
    all_goals
      have hz1 := HZ.out
      go_wp2
      go_meet
      first
        | (have H2 := two_apt hgl (show w.heap.size ≤ (w.alloc (.cells #[.int .i64 i0, .int .i64 i1, .slice Ag gl cg, .slice Ao ol co] 26)).drew.heap.size from hz1) hoa hgA hob hgB; exact Lib.hid ⟨a, b, ha, hb, H2.1, H2.2.1, H2.2.2.1, ⟨hDB.cur.mono (by omega), hDB.grown⟩⟩)
        | (have H2 := two_apt hgl (show w.heap.size ≤ (w.alloc (.cells #[.int .i64 i0, .int .i64 i1, .slice Ag gl cg, .slice Ao ol co] 26)).drew.heap.size from hz1) hob hgB hoa hgA; exact Lib.hid ⟨a, b, ha, hb, H2.2.1, H2.1, H2.2.2.2, ⟨hDA.cur.mono (by omega), hDA.grown⟩⟩)
  case rest =>
    obtain ⟨wm, hwm⟩ : ∃ W, wc = W := ⟨_, rfl⟩
    rw [hwm] at hcut ⊢
    obtain ⟨a, b, ha, hb, hoa, hob, hap, hd⟩ := hcut.out
    have HO := Lib.hid (And.intro hoa (And.intro hob hap))
    have hc1 := hd.cur
    have HG1 := Lib.hid hd.grown
    clear hwm hcut hoa hob hap hd HK HZ hD0
    go_wp2_with fail
    refine (c_pick hc1 (by omega) (by omega)).mono ?_
    rintro e w2 ⟨v, rfl, ⟨q, rfl, hq0, -, hq1⟩, hc2, hg2⟩
    have HA2 := Lib.hid (own_app HO.out.1 hgl hg2)
    have HB2 := Lib.hid (own_app HO.out.2.1 hgl hg2)
    have HG2 := Lib.hid (only_trans HG1.out hg2)
    have HC2 := Lib.hid hc2
    have hz2 : w.heap.size ≤ w2.heap.size := HG2.out.size
    clear hc1 HG1 hc2 hg2
    go_upto_block 0 with fail
    go_cut [6, 7] (fun u v wx => Hid (TwoS w g cd (n + 5000) 601 u v wx))
    case first =>
      by_cases h0 : q = 0
      · subst h0
        go_wp2_with (at_builtin; refine wp_app1 (B := w.heap.size) rfl rfl Tryz.underlying24 info_int rfl HA2.out rfl rfl rfl (by unfold maxLen; omega) (by omega) hz2 ?_; intro v' w9 ho hg hfr)
        have HA := Lib.hid (Cur.app HCD.out HC2.out HG2.out hg (fun b hb => HA2.out.ge b hb) hgl)
        go_meet
        exact Lib.hid ⟨_, b, snoc_le ha, by omega, OwnI.snoc ho, HB2.out.grown hg (fun k hk e => HO.out.2.2 k e.symm hk), ⟨HA.out.1.mono (by omega), HA.out.2⟩⟩
      · by_cases h1 : q = 1
        · subst h1
          go_wp2_with (at_builtin; refine wp_app1 (B := w.heap.size) rfl rfl Tryz.underlying24 info_int rfl HB2.out rfl rfl rfl (by unfold maxLen; omega) (by omega) hz2 ?_; intro v' w9 ho hg hfr)
          have HA := Lib.hid (Cur.app HCD.out HC2.out HG2.out hg (fun b hb => HB2.out.ge b hb) hgl)
          go_meet
          exact Lib.hid ⟨a, _, by omega, snoc_le hb, HA2.out.grown hg (fun k hk e => HO.out.2.2 k hk e.symm), OwnI.snoc ho, ⟨HA.out.1.mono (by omega), HA.out.2⟩⟩
        · go_wp2
          go_meet
          exact Lib.hid ⟨a, b, by omega, by omega, HA2.out, HB2.out, ⟨HC2.out.mono (by omega), HG2.out⟩⟩
    case rest =>
      obtain ⟨wn, hwm⟩ : ∃ W, wc = W := ⟨_, rfl⟩
      rw [hwm] at hcut ⊢
      have HF := Lib.hid hcut.out
      clear hwm hcut HA2 HB2 HC2 HG2
      go_wp2
      go_ret2
      exact ⟨_, _, rfl, HF.out⟩
end
end Go.Proofs.YtejeppjmlgfiaaaGreat

/- The draws of circuits' laws: what the draw has in hand, step by step; the draws of labels and of inputs. Condition: the bytes read as bytes. -/
namespace Go.Proofs.YtejeppjmlgfiaaaGreat
open Go.RowKit
set_option linter.unusedVariables false
set_option maxHeartbeats 4000000
section
variable {W w wr w' : World} {g n m rb x : Nat} {cd : Value} {c : Cir} {gv ov u v : Value} {a b : List Int}
/-- A circuit and two lists are drawn; the circuit lies in a box too; the box of the result is empty yet. -/
structure Pk (W : World) (g : Nat) (cd : Value) (n rb x : Nat) (c : Cir) (gv ov u v : Value) (a b : List Int) (wr : World) : Prop where
  gates : OwnG wr W.heap.size gv c.gs
  outs : OwnI wr W.heap.size ov c.outs
  la : OwnI wr W.heap.size u a
  lb : OwnI wr W.heap.size v b
  box : Blk wr x 26 #[.int .i64 c.i0, .int .i64 c.i1, gv, ov]
  res : Blk wr rb 26 #[.int .i64 0, .int .i64 0, .slice none 0 0, .slice none 0 0]
  cur : Cur wr g cd n
  grown : W.grownBy wr (some g)
  lt : g < W.heap.size ∧ rb < W.heap.size ∧ rb ≠ g ∧ W.heap.size ≤ x
theorem Pk.draw (h : Pk W g cd n rb x c gv ov u v a b wr) (hg : wr.grownBy w' (some g)) (hc : Cur w' g cd m) : Pk W g cd m rb x c gv ov u v a b w' := by
  obtain ⟨h1, h2, h3, h4⟩ := h.lt
  have key : ∀ {u : Value} {l : List Int}, OwnI wr W.heap.size u l → OwnI w' W.heap.size u l := fun h9 => own_app h9 h1 hg
  exact ⟨own_grown h.gates hg (fun b hb e => by have := own_ge h.gates b hb; injection e with e; omega), key h.outs, key h.la, key h.lb, h.box.grown hg (by simp; omega), h.res.grown hg (by simp; omega), hc, only_trans h.grown hg, h.lt⟩
theorem Pk.more (h : Pk W g cd n rb x c gv ov u v a b wr) (hm : n ≤ m) : Pk W g cd m rb x c gv ov u v a b wr := ⟨h.gates, h.outs, h.la, h.lb, h.box, h.res, h.cur.mono hm, h.grown, h.lt⟩
theorem Pk.below (h : Pk W g cd n rb x c gv ov u v a b wr) (hb : Below wr.heap.size wr w') : Pk W g cd n rb x c gv ov u v a b w' :=
  ⟨h.gates.below hb, h.outs.below hb, h.la.below hb, h.lb.below hb, h.box.step hb, h.res.step hb, h.cur.below hb, only_trans h.grown (only_below hb _), h.lt⟩
theorem Pk.drew (h : Pk W g cd n rb x c gv ov u v a b wr) : Pk W g cd n rb x c gv ov u v a b wr.drew := h.below (Below.refl _ _).drew
theorem Pk.alloc (h : Pk W g cd n rb x c gv ov u v a b wr) (o : Obj) : Pk W g cd n rb x c gv ov u v a b (wr.alloc o) := h.below ((Below.refl _ _).alloc (Nat.le_refl _) o)
theorem Pk.four (h : Pk W g cd n rb x c gv ov u v a b wr) : wr.cell? ⟨x, 0, none⟩ = some (.int .i64 c.i0) ∧ wr.cell? ⟨x, 1, none⟩ = some (.int .i64 c.i1) ∧ wr.cell? ⟨x, 2, none⟩ = some gv ∧ wr.cell? ⟨x, 3, none⟩ = some ov := ⟨h.box.cell 0, h.box.cell 1, h.box.cell 2, h.box.cell 3⟩
theorem Pk.resf (h : Pk W g cd n rb x c gv ov u v a b wr) : wr.cell? ⟨rb, 0, none⟩ = some (.int .i64 0) ∧ wr.cell? ⟨rb, 1, none⟩ = some (.int .i64 0) ∧ wr.cell? ⟨rb, 2, none⟩ = some (.slice none 0 0) ∧ wr.cell? ⟨rb, 3, none⟩ = some (.slice none 0 0) ∧
    wr.frozen? ⟨rb, 0, none⟩ = false ∧ wr.frozen? ⟨rb, 1, none⟩ = false ∧ wr.frozen? ⟨rb, 2, none⟩ = false ∧ wr.frozen? ⟨rb, 3, none⟩ = false := ⟨h.res.cell 0, h.res.cell 1, h.res.cell 2, h.res.cell 3, h.res.free 0, h.res.free 1, h.res.free 2, h.res.free 3⟩
theorem Pk.stored (h : Pk W g cd n rb x c gv ov u v a b wr) (y0 y1 y2 y3 : Value) : let w9 := (((wr.setCell ⟨rb, 0, none⟩ y0).setCell ⟨rb, 1, none⟩ y1).setCell ⟨rb, 2, none⟩ y2).setCell ⟨rb, 3, none⟩ y3
    w9.cell? ⟨x, 0, none⟩ = some (.int .i64 c.i0) ∧ w9.cell? ⟨x, 1, none⟩ = some (.int .i64 c.i1) ∧ w9.cell? ⟨x, 2, none⟩ = some gv ∧ w9.cell? ⟨x, 3, none⟩ = some ov := by
  intro w9
  have hne : x ≠ rb := by have := h.lt; omega
  have hb := (((h.box.far (p := ⟨rb, 0, none⟩) hne y0).far (p := ⟨rb, 1, none⟩) hne y1).far (p := ⟨rb, 2, none⟩) hne y2).far (p := ⟨rb, 3, none⟩) hne y3
  exact ⟨hb.cell 0, hb.cell 1, hb.cell 2, hb.cell 3⟩
/-- The lists of inputs come. -/
theorem Pk.two {u' v' : Value} {a' b' : List Int} (h : Pk W g cd n rb x c gv ov u v a b wr) (ha : OwnI w' wr.heap.size u' a') (hb : OwnI w' wr.heap.size v' b') (hd : DrS wr g cd m w') : Pk W g cd m rb x c gv ov u' v' a' b' w' := by
  have h1 := h.draw hd.grown hd.cur
  exact ⟨h1.gates, h1.outs, ha.mono h.grown.size, hb.mono h.grown.size, h1.box, h1.res, h1.cur, h1.grown, h1.lt⟩
theorem Pk.start {w1 : World} (hW : Cur W g cd m) (hres : Blk W rb 26 #[.int .i64 0, .int .i64 0, .slice none 0 0, .slice none 0 0]) (hlt : g < W.heap.size ∧ rb < W.heap.size ∧ rb ≠ g) (h1 : OwnG w1 W.heap.size gv c.gs) (h2 : OwnI w1 W.heap.size ov c.outs) (hc : Cur w1 g cd n) (hg : W.grownBy w1 (some g)) :
    Pk W g cd n rb w1.heap.size c gv ov (.slice none 0 0) (.slice none 0 0) [] [] (w1.alloc (.cells #[.int .i64 c.i0, .int .i64 c.i1, gv, ov] 26)) := by
  have hb := (Below.refl w1.heap.size w1).alloc (Nat.le_refl _) (.cells #[.int .i64 c.i0, .int .i64 c.i1, gv, ov] 26)
  exact ⟨h1.below hb, h2.below hb, OwnI.nil _ _, OwnI.nil _ _, Blk.new _ _ _, (hres.grown hg (by simp; omega)).step hb, hc.below hb, only_trans hg (only_below hb _), hlt.1, hlt.2.1, hlt.2.2, hg.size⟩
/-- The circuit goes into the box of the result. -/
theorem Pk.done (h : Pk W g cd n rb x c gv ov u v a b wr) (hW : Below w.heap.size w W) (h1 : w.heap.size ≤ rb) (h2 : w.heap.size ≤ g) (hs : w.heap.size ≤ W.heap.size) :
    let w9 := (((wr.setCell ⟨rb, 0, none⟩ (.int .i64 c.i0)).setCell ⟨rb, 1, none⟩ (.int .i64 c.i1)).setCell ⟨rb, 2, none⟩ gv).setCell ⟨rb, 3, none⟩ ov
    CirIn w9 gv ov c ∧ Ints w9 u a ∧ Ints w9 v b ∧ Below w.heap.size w w9 ∧ w9.cell? ⟨rb, 0, none⟩ = some (.int .i64 c.i0) ∧ w9.cell? ⟨rb, 1, none⟩ = some (.int .i64 c.i1) ∧ w9.cell? ⟨rb, 2, none⟩ = some gv ∧ w9.cell? ⟨rb, 3, none⟩ = some ov := by
  intro w9
  obtain ⟨l1, l2, l3, l4⟩ := h.lt
  have key : ∀ {E sz k : Nat} {y : Value} {xs : List Value}, wr.ownsRow W.heap.size E sz y k xs → w9.ownsRow W.heap.size E sz y k xs := fun {E sz k y xs} h9 => by
    have hne : ∀ b, y.ownBlock = some b → b ≠ rb := fun b hb => by have := own_ge h9 b hb; omega
    exact own_set (p := ⟨rb, 3, none⟩) (own_set (p := ⟨rb, 2, none⟩) (own_set (p := ⟨rb, 1, none⟩) (own_set (p := ⟨rb, 0, none⟩) h9 hne _) hne _) hne _) hne _
  refine ⟨⟨(show OwnG w9 W.heap.size gv c.gs from key h.gates).gates, (show OwnI w9 W.heap.size ov c.outs from key h.outs).ints⟩, (show OwnI w9 W.heap.size u a from key h.la).ints, (show OwnI w9 W.heap.size v b from key h.lb).ints, ?_, ?_⟩
  · have hb : Below w.heap.size w wr := hW.grown h.grown hs (fun k hk => by injection hk with hk; omega)
    exact (((hb.setCell (p := ⟨rb, 0, none⟩) h1 _).setCell (p := ⟨rb, 1, none⟩) h1 _).setCell (p := ⟨rb, 2, none⟩) h1 _).setCell (p := ⟨rb, 3, none⟩) h1 _
  · have hf := (((h.res.set_ 0 (.int .i64 c.i0)).set_ 1 (.int .i64 c.i1)).set_ 2 gv).set_ 3 ov
    exact ⟨hf.cell 0, hf.cell 1, hf.cell 2, hf.cell 3⟩
theorem Pk.c_pick {k : Int} (h : Pk W g cd n rb x c gv ov u v a b wr) (hn : n ≤ 1000000000) (hm : k ≤ 9223372036854775807) :
    Calls Tryz.prog 55 #[.pointer (some ⟨g, 0, none⟩), .int .i64 k] wr fun e w' => ∃ r : Int, e = .returned (.int .i64 r) ∧ 0 ≤ r ∧ (r < k ∨ k ≤ 0) ∧ Pk W g cd (n + 2) rb x c gv ov u v a b w' :=
  (Go.Proofs.YtejeppjmlgfiaaaGreat.c_pick h.cur (by omega) hm).mono fun e w' ⟨v, e1, ⟨r, e2, h0, _, h1⟩, hc, hg⟩ => ⟨r, by rw [e1, e2], h0, h1, h.draw hg hc⟩
theorem Pk.c_secret (h : Pk W g cd n rb x c gv ov u v a b wr) (hn : n ≤ 1000000000) :
    Calls Tryz.prog 89 #[.pointer (some ⟨g, 0, none⟩)] wr fun e w' => ∃ r : Int, e = .returned (.int .i64 r) ∧ Pk W g cd (n + 4) rb x c gv ov u v a b w' :=
  (Go.Proofs.YtejeppjmlgfiaaaGreat.c_secret h.cur (by omega)).mono fun e w' ⟨v, e1, ⟨r, e2, _, _⟩, hc, hg⟩ => ⟨r, by rw [e1, e2], h.draw hg hc⟩
theorem Pk.c_offset (h : Pk W g cd n rb x c gv ov u v a b wr) (hn : n ≤ 100000000) :
    Calls Tryz.prog 111 #[.pointer (some ⟨g, 0, none⟩)] wr fun e w' => ∃ r : Int, e = .returned (.int .i64 r) ∧ Pk W g cd (n + 8) rb x c gv ov u v a b w' :=
  (Go.Proofs.YtejeppjmlgfiaaaGreat.c_offset h.cur (by omega)).mono fun e w' ⟨v, e1, ⟨r, e2, _, _⟩, hc, hg⟩ => ⟨r, by rw [e1, e2], h.draw hg hc⟩
end
section
variable {w : World} {cd : Value} {l0 : List Int}
/-- Behind a box for a circuit and a new cursor. -/
theorem pk_new (h : Byts w cd l0) : Cur ((w.alloc (.cells #[.int .i64 0, .int .i64 0, .slice none 0 0, .slice none 0 0] 26)).alloc (.cells #[cd, .int .i64 0, .int .u64 0] 71)) (w.heap.size + 1) cd 0 ∧
    Blk ((w.alloc (.cells #[.int .i64 0, .int .i64 0, .slice none 0 0, .slice none 0 0] 26)).alloc (.cells #[cd, .int .i64 0, .int .u64 0] 71)) w.heap.size 26 #[.int .i64 0, .int .i64 0, .slice none 0 0, .slice none 0 0] ∧
    Below w.heap.size w ((w.alloc (.cells #[.int .i64 0, .int .i64 0, .slice none 0 0, .slice none 0 0] 26)).alloc (.cells #[cd, .int .i64 0, .int .u64 0] 71)) ∧
    ((w.alloc (.cells #[.int .i64 0, .int .i64 0, .slice none 0 0, .slice none 0 0] 26)).alloc (.cells #[cd, .int .i64 0, .int .u64 0] 71)).heap.size = w.heap.size + 2 := by
  have h1 := cur_new (h.below ((Below.refl w.heap.size w).alloc (Nat.le_refl _) (.cells #[.int .i64 0, .int .i64 0, .slice none 0 0, .slice none 0 0] 26)))
  rw [show (w.alloc (.cells #[.int .i64 0, .int .i64 0, .slice none 0 0, .slice none 0 0] 26)).heap.size = w.heap.size + 1 by simp] at h1
  exact ⟨h1, (Blk.new _ _ _).alloc _, ((Below.refl _ _).alloc (Nat.le_refl _) _).alloc (by simp) _, by simp⟩
end
end Go.Proofs.YtejeppjmlgfiaaaGreat

/- Contracts of the draws of a circuit with a key, an offset and inputs. Condition: the bytes read as bytes. -/
namespace Go.Proofs.YtejeppjmlgfiaaaGreat
open Go.RowKit
set_option linter.unusedVariables false
set_option maxHeartbeats 4000000
section
variable {w : World} {cd : Value} {l0 : List Int}
set_option maxRecDepth 100000 in
theorem c_spec_DrawOpenedRows (h : Byts w cd l0) : Calls Tryz.prog 40 #[cd] w fun e w' => (∃ (c : Cir) (gv ov u v : Value) (k r : Int) (a b : List Int), e = .returned (.tuple #[cirV c gv ov, .int .i64 k, .int .i64 r, u, v]) ∧ AnC c ∧ a.length ≤ 601 ∧ b.length ≤ 601 ∧ CirIn w' gv ov c ∧ Ints w' u a ∧ Ints w' v b) ∧ Below w.heap.size w w' := by
  obtain ⟨A0, c0, rfl⟩ := h.form
  obtain ⟨hC, hR, hB, hS⟩ := pk_new h
  have HW := Lib.hid (And.intro hR (And.intro hB hS))
  have HC := Lib.hid hC
  clear h hR hB hS hC
  go_enter Tryz.func40, Tryz.ntmps40
  go_wp2_with fail
  refine (c_anyCircuit HC.out (by omega)).mono ?_
  rintro e w1 ⟨c, gv, ov, rfl, hs, hog, hoo, -, hc1, hg1⟩
  obtain ⟨Ag, cg, eg, -⟩ := own_form hog
  obtain ⟨Ao, co, eo, -⟩ := own_form hoo
  subst eg eo
  have hP := Pk.start HC.out HW.out.1 (by have := HW.out.2.2; omega) hog hoo hc1 hg1
  have HP := Lib.hid hP
  have hi0 : c.i0 ≤ 21 := hs.1.2.1
  have hi1 : c.i1 ≤ 21 := hs.1.2.2.2
  have HS := Lib.hid hs
  have HX := Lib.hid (show w1.heap.size = w1.heap.size from rfl)
  obtain ⟨x0, x1, x2, x3⟩ := hP.four
  clear hog hoo hc1 hg1 hP hs
  unfold cirV
  go_wp2_with fail
  refine (c_inputs HP.out.cur (by omega) hi0 hi1).mono ?_
  rintro e w2 ⟨u, v, rfl, a, b, ha, hb, hoa, hob, hd⟩
  obtain ⟨Aa, ca, ea, -⟩ := own_form hoa
  obtain ⟨Ab, cb, eb, -⟩ := own_form hob
  subst ea eb
  have hQ := HP.out.two hoa hob hd
  have HQ := Lib.hid hQ
  have hP0 := hQ.drew
  have HAB := Lib.hid (And.intro ha hb)
  generalize w1.heap.size = x at *
  clear hoa hob hd HP hQ x0 x1 x2 x3 ha hb
  go_wp2_with fail
  go_region_held3 (fun w' => w'.cell? ⟨x, 0, none⟩ = some (.int .i64 c.i0) ∧ w'.cell? ⟨x, 1, none⟩ = some (.int .i64 c.i1) ∧ w'.cell? ⟨x, 2, none⟩ = some (.slice Ag c.gs.length cg) ∧ w'.cell? ⟨x, 3, none⟩ = some (.slice Ao c.outs.length co))
    (first | exact hPS.four | exact hPO.four | exact hP0.four | exact hPO.stored _ _ _ _ | exact hPS.stored _ _ _ _ | go_keep)
    (first
      | (go_at_call 89; (first | (with_reducible refine (hPO.c_secret (by omega)).mono ?_) | (with_reducible refine (hP0.c_secret (by omega)).mono ?_)); rintro e wS ⟨k, rfl, hPS⟩; obtain ⟨r0, r1, r2, r3, f0, f1, f2, f3⟩ := hPS.resf)
      | (go_at_call 111; (first | (with_reducible refine (hPS.c_offset (by omega)).mono ?_) | (with_reducible refine (hP0.c_offset (by omega)).mono ?_)); rintro e wO ⟨r, rfl, hPO⟩; obtain ⟨r0, r1, r2, r3, f0, f1, f2, f3⟩ := hPO.resf))
  all_goals
    go_wp2
    first
      | (obtain ⟨d1, d2, d3, d4, k0, k1, k2, k3⟩ := hPO.done HW.out.2.1 (Nat.le_refl _) (Nat.le_succ _) HW.out.2.1.size; refine bodyPost_ret (v := .tuple #[cirV c (.slice Ag c.gs.length cg) (.slice Ao c.outs.length co), .int .i64 k, .int .i64 r, .slice Aa a.length ca, .slice Ab b.length cb]) (by simp [results, Tryz.results40, go_sem, k0, k1, k2, k3, cirV]) rfl ⟨⟨c, _, _, _, _, k, r, a, b, rfl, HS.out, HAB.out.1, HAB.out.2, d1, d2, d3⟩, d4⟩)
      | (obtain ⟨d1, d2, d3, d4, k0, k1, k2, k3⟩ := hPS.done HW.out.2.1 (Nat.le_refl _) (Nat.le_succ _) HW.out.2.1.size; refine bodyPost_ret (v := .tuple #[cirV c (.slice Ag c.gs.length cg) (.slice Ao c.outs.length co), .int .i64 k, .int .i64 r, .slice Aa a.length ca, .slice Ab b.length cb]) (by simp [results, Tryz.results40, go_sem, k0, k1, k2, k3, cirV]) rfl ⟨⟨c, _, _, _, _, k, r, a, b, rfl, HS.out, HAB.out.1, HAB.out.2, d1, d2, d3⟩, d4⟩)
end
end Go.Proofs.YtejeppjmlgfiaaaGreat
