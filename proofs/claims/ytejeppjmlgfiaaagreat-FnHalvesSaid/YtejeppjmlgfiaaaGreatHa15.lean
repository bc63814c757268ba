/- Contracts of the draws for runs and tables of circuits. Condition: the bytes read as bytes. -/
import Derived.Test.YtejeppjmlgfiaaaGreatHa14
namespace Go.Proofs.YtejeppjmlgfiaaaGreat
open Go.RowKit
set_option linter.unusedVariables false
set_option maxHeartbeats 4000000
section
variable {W w wr w' : World} {g n m rb x : Nat} {cd : Value} {c : Cir} {gv ov u v : Value} {a b : List Int}
theorem Pk.c_among {l : List Int} {lv : Value} (h : Pk W g cd n rb x c gv ov u v a b wr) (hn : n ≤ 1000000000) (hl : Ints wr lv l) (hl0 : 0 < l.length) (hl1 : l.length ≤ 1000) (hne : ∀ b, lv.ownBlock = some b → b ≠ g) :
    Calls Tryz.prog 54 #[.pointer (some ⟨g, 0, none⟩), lv] wr fun e w' => ∃ r : Int, e = .returned (.int .i64 r) ∧ Pk W g cd (n + 2) rb x c gv ov u v a b w' :=
  (Go.Proofs.YtejeppjmlgfiaaaGreat.c_among h.cur (by omega) hl hl0 hl1 hne).mono fun e w' ⟨v, e1, ⟨r, e2, _⟩, hc, hg⟩ => ⟨r, by rw [e1, e2], h.draw hg hc⟩
/-- A circuit is drawn; the box of the result is empty yet. -/
structure Ck (W : World) (g : Nat) (cd : Value) (n rb : Nat) (c : Cir) (gv ov : Value) (wr : World) : Prop where
  gates : OwnG wr W.heap.size gv c.gs
  outs : OwnI wr W.heap.size ov c.outs
  res : Blk wr rb 26 #[.int .i64 0, .int .i64 0, .slice none 0 0, .slice none 0 0]
  cur : Cur wr g cd n
  grown : W.grownBy wr (some g)
  lt : g < W.heap.size ∧ rb < W.heap.size ∧ rb ≠ g
theorem Ck.draw (h : Ck W g cd n rb c gv ov wr) (hg : wr.grownBy w' (some g)) (hc : Cur w' g cd m) : Ck W g cd m rb c gv ov w' := by
  obtain ⟨h1, h2, h3⟩ := h.lt
  exact ⟨own_grown h.gates hg (fun b hb e => by have := own_ge h.gates b hb; injection e with e; omega), own_app h.outs h1 hg, h.res.grown hg (by simp; omega), hc, only_trans h.grown hg, h.lt⟩
theorem Ck.below (h : Ck W g cd n rb c gv ov wr) (hb : Below wr.heap.size wr w') : Ck W g cd n rb c gv ov w' :=
  ⟨h.gates.below hb, h.outs.below hb, h.res.step hb, h.cur.below hb, only_trans h.grown (only_below hb _), h.lt⟩
theorem Ck.drew (h : Ck W g cd n rb c gv ov wr) : Ck W g cd n rb c gv ov wr.drew := h.below (Below.refl _ _).drew
theorem Ck.alloc (h : Ck W g cd n rb c gv ov wr) (o : Obj) : Ck W g cd n rb c gv ov (wr.alloc o) := h.below ((Below.refl _ _).alloc (Nat.le_refl _) o)
theorem Ck.start (hW : Cur W g cd m) (hres : Blk W rb 26 #[.int .i64 0, .int .i64 0, .slice none 0 0, .slice none 0 0]) (hlt : g < W.heap.size ∧ rb < W.heap.size ∧ rb ≠ g) (h1 : OwnG wr W.heap.size gv c.gs) (h2 : OwnI wr W.heap.size ov c.outs) (hc : Cur wr g cd n) (hg : W.grownBy wr (some g)) :
    Ck W g cd n rb c gv ov wr := ⟨h1, h2, hres.grown hg (by simp; omega), hc, hg, hlt⟩
theorem Ck.resf (h : Ck W g cd n rb c gv ov wr) : wr.cell? ⟨rb, 0, none⟩ = some (.int .i64 0) ∧ wr.cell? ⟨rb, 1, none⟩ = some (.int .i64 0) ∧ wr.cell? ⟨rb, 2, none⟩ = some (.slice none 0 0) ∧ wr.cell? ⟨rb, 3, none⟩ = some (.slice none 0 0) ∧
    wr.frozen? ⟨rb, 0, none⟩ = false ∧ wr.frozen? ⟨rb, 1, none⟩ = false ∧ wr.frozen? ⟨rb, 2, none⟩ = false ∧ wr.frozen? ⟨rb, 3, none⟩ = false := ⟨h.res.cell 0, h.res.cell 1, h.res.cell 2, h.res.cell 3, h.res.free 0, h.res.free 1, h.res.free 2, h.res.free 3⟩
/-- The circuit goes into the box of the result. -/
theorem Ck.done (h : Ck W g cd n rb c gv ov wr) (hW : Below w.heap.size w W) (h1 : w.heap.size ≤ rb) (h2 : w.heap.size ≤ g) (hs : w.heap.size ≤ W.heap.size) :
    let w9 := (((wr.setCell ⟨rb, 0, none⟩ (.int .i64 c.i0)).setCell ⟨rb, 1, none⟩ (.int .i64 c.i1)).setCell ⟨rb, 2, none⟩ gv).setCell ⟨rb, 3, none⟩ ov
    (OwnG w9 w.heap.size gv c.gs ∧ OwnI w9 w.heap.size ov c.outs) ∧ Below w.heap.size w w9 ∧ w9.cell? ⟨rb, 0, none⟩ = some (.int .i64 c.i0) ∧ w9.cell? ⟨rb, 1, none⟩ = some (.int .i64 c.i1) ∧ w9.cell? ⟨rb, 2, none⟩ = some gv ∧ w9.cell? ⟨rb, 3, none⟩ = some ov := by
  intro w9
  obtain ⟨l1, l2, l3⟩ := h.lt
  have key : ∀ {E sz k : Nat} {y : Value} {xs : List Value}, wr.ownsRow W.heap.size E sz y k xs → w9.ownsRow W.heap.size E sz y k xs := fun {E sz k y xs} h9 => by
    have hne : ∀ b, y.ownBlock = some b → b ≠ rb := fun b hb => by have := own_ge h9 b hb; omega
    exact own_set (p := ⟨rb, 3, none⟩) (own_set (p := ⟨rb, 2, none⟩) (own_set (p := ⟨rb, 1, none⟩) (own_set (p := ⟨rb, 0, none⟩) h9 hne _) hne _) hne _) hne _
  refine ⟨⟨own_mono (show OwnG w9 W.heap.size gv c.gs from key h.gates) hs, (show OwnI w9 W.heap.size ov c.outs from key h.outs).mono hs⟩, ?_, ?_⟩
  · have hb : Below w.heap.size w wr := hW.grown h.grown hs (fun k hk => by injection hk with hk; omega)
    exact (((hb.setCell (p := ⟨rb, 0, none⟩) h1 _).setCell (p := ⟨rb, 1, none⟩) h1 _).setCell (p := ⟨rb, 2, none⟩) h1 _).setCell (p := ⟨rb, 3, none⟩) h1 _
  · have hf := (((h.res.set_ 0 (.int .i64 c.i0)).set_ 1 (.int .i64 c.i1)).set_ 2 gv).set_ 3 ov
    exact ⟨hf.cell 0, hf.cell 1, hf.cell 2, hf.cell 3⟩
theorem Ck.c_pick {k : Int} (h : Ck W g cd n rb c gv ov wr) (hn : n ≤ 1000000000) (hm : k ≤ 9223372036854775807) :
    Calls Tryz.prog 55 #[.pointer (some ⟨g, 0, none⟩), .int .i64 k] wr fun e w' => ∃ r : Int, e = .returned (.int .i64 r) ∧ 0 ≤ r ∧ (r < k ∨ k ≤ 0) ∧ Ck W g cd (n + 2) rb c gv ov w' :=
  (Go.Proofs.YtejeppjmlgfiaaaGreat.c_pick h.cur (by omega) hm).mono fun e w' ⟨v, e1, ⟨r, e2, h0, _, h1⟩, hc, hg⟩ => ⟨r, by rw [e1, e2], h0, h1, h.draw hg hc⟩
theorem Ck.c_among {l : List Int} {lv : Value} (h : Ck W g cd n rb c gv ov wr) (hn : n ≤ 1000000000) (hl : Ints wr lv l) (hl0 : 0 < l.length) (hl1 : l.length ≤ 1000) (hne : ∀ b, lv.ownBlock = some b → b ≠ g) :
    Calls Tryz.prog 54 #[.pointer (some ⟨g, 0, none⟩), lv] wr fun e w' => ∃ r : Int, e = .returned (.int .i64 r) ∧ Ck W g cd (n + 2) rb c gv ov w' :=
  (Go.Proofs.YtejeppjmlgfiaaaGreat.c_among h.cur (by omega) hl hl0 hl1 hne).mono fun e w' ⟨v, e1, ⟨r, e2, _⟩, hc, hg⟩ => ⟨r, by rw [e1, e2], h.draw hg hc⟩
theorem Ck.c_secret (h : Ck W g cd n rb c gv ov wr) (hn : n ≤ 1000000000) :
    Calls Tryz.prog 89 #[.pointer (some ⟨g, 0, none⟩)] wr fun e w' => ∃ r : Int, e = .returned (.int .i64 r) ∧ Ck W g cd (n + 4) rb c gv ov w' :=
  (Go.Proofs.YtejeppjmlgfiaaaGreat.c_secret h.cur (by omega)).mono fun e w' ⟨v, e1, ⟨r, e2, _, _⟩, hc, hg⟩ => ⟨r, by rw [e1, e2], h.draw hg hc⟩
theorem Ck.c_offset (h : Ck W g cd n rb c gv ov wr) (hn : n ≤ 100000000) :
    Calls Tryz.prog 111 #[.pointer (some ⟨g, 0, none⟩)] wr fun e w' => ∃ r : Int, e = .returned (.int .i64 r) ∧ Ck W g cd (n + 8) rb c gv ov w' :=
  (Go.Proofs.YtejeppjmlgfiaaaGreat.c_offset h.cur (by omega)).mono fun e w' ⟨v, e1, ⟨r, e2, _, _⟩, hc, hg⟩ => ⟨r, by rw [e1, e2], h.draw hg hc⟩
end
theorem own_set4 {w1 : World} {B E sz k rb : Nat} {y : Value} {xs : List Value} (h : w1.ownsRow B E sz y k xs) (hB : rb < B) (y0 y1 y2 y3 : Value) :
    ((((w1.setCell ⟨rb, 0, none⟩ y0).setCell ⟨rb, 1, none⟩ y1).setCell ⟨rb, 2, none⟩ y2).setCell ⟨rb, 3, none⟩ y3).ownsRow B E sz y k xs := by
  have hne : ∀ b, y.ownBlock = some b → b ≠ rb := fun b hb => by have := own_ge h b hb; omega
  exact own_set (p := ⟨rb, 3, none⟩) (own_set (p := ⟨rb, 2, none⟩) (own_set (p := ⟨rb, 1, none⟩) (own_set (p := ⟨rb, 0, none⟩) h hne _) hne _) hne _) hne _
section
variable {w : World} {cd : Value} {l0 : List Int}
set_option maxRecDepth 100000 in
theorem c_spec_DrawHalfZeros (h : Byts w cd l0) : Calls Tryz.prog 69 #[cd] w fun e w' => (∃ (c : Cir) (gv ov : Value) (k r : Int), e = .returned (.tuple #[cirV c gv ov, .int .i64 k, .int .i64 r]) ∧ AnC c ∧ OwnG w' w.heap.size gv c.gs ∧ OwnI w' w.heap.size ov c.outs) ∧ Below w.heap.size w w' := by
  obtain ⟨A0, c0, rfl⟩ := h.form
  obtain ⟨hC, hR, hB, hS⟩ := pk_new h
  have HW := Lib.hid (And.intro hR (And.intro hB hS))
  have HC := Lib.hid hC
  clear h hR hB hS hC
  go_enter Tryz.func69, Tryz.ntmps69
  go_wp2_with fail
  refine (c_anyCircuit HC.out (by omega)).mono ?_
  rintro e w1 ⟨c, gv, ov, rfl, hs, hog, hoo, -, hc1, hg1⟩
  obtain ⟨Ag, cg, eg, -⟩ := own_form hog
  obtain ⟨Ao, co, eo, -⟩ := own_form hoo
  subst eg eo
  have HP := Lib.hid (Ck.start HC.out HW.out.1 (by have := HW.out.2.2; omega) hog hoo hc1 hg1)
  have HS := Lib.hid hs
  clear hog hoo hc1 hg1 hs
  unfold cirV
  go_wp2_with fail
  refine (HP.out.c_pick (by omega) (by omega)).mono ?_
  rintro e w2 ⟨r1, rfl, h10, h11, hP2⟩
  replace HP := Lib.hid hP2
  clear hP2
  go_wp2_with fail
  refine (HP.out.c_pick (by omega) (by omega)).mono ?_
  rintro e w3 ⟨r2, rfl, h20, h21, hP2⟩
  replace HP := Lib.hid hP2
  have hgl := hP2.cur.lt
  clear hP2
  go_wp2_with fail
  refine ((HP.out.alloc _).c_among (l := [r1, r2, 1000000000, 1000000001]) (by omega) (ints_lit _ _ _ rfl (by simp)) (by simp) (by simp) (by rintro b hb; simp [Value.ownBlock] at hb; omega)).mono ?_
  rintro e w4 ⟨k, rfl, hP2⟩
  replace HP := Lib.hid hP2
  clear hP2
  go_wp2_with fail
  refine (HP.out.c_offset (by omega)).mono ?_
  rintro e w5 ⟨r, rfl, hP2⟩
  replace HP := Lib.hid hP2
  obtain ⟨x0, x1, x2, x3, f0, f1, f2, f3⟩ := hP2.resf
  obtain ⟨d1, d4, k0, k1, k2, k3⟩ := hP2.done HW.out.2.1 (Nat.le_refl _) (Nat.le_succ _) HW.out.2.1.size
  have HD := Lib.hid (And.intro d1 d4)
  have HK := Lib.hid (And.intro k0 (And.intro k1 (And.intro k2 k3)))
  clear hP2 d1 d4 k0 k1 k2 k3
  go_wp2
  obtain ⟨k0, k1, k2, k3⟩ := HK.out
  exact bodyPost_ret (v := .tuple #[cirV c (.slice Ag c.gs.length cg) (.slice Ao c.outs.length co), .int .i64 k, .int .i64 r]) (by simp [results, Tryz.results69, go_sem, k0, k1, k2, k3, cirV]) rfl ⟨⟨c, _, _, k, r, rfl, HS.out, HD.out.1.1, HD.out.1.2⟩, HD.out.2⟩
set_option maxRecDepth 100000 in
theorem c_spec_DrawZeroLabels (h : Byts w cd l0) : Calls Tryz.prog 99 #[cd] w fun e w' => (∃ (c : Cir) (gv ov : Value) (k r : Int), e = .returned (.tuple #[cirV c gv ov, .int .i64 k, .int .i64 r]) ∧ AnC c ∧ OwnG w' w.heap.size gv c.gs ∧ OwnI w' w.heap.size ov c.outs) ∧ Below w.heap.size w w' := by
  obtain ⟨A0, c0, rfl⟩ := h.form
  obtain ⟨hC, hR, hB, hS⟩ := pk_new h
  have HW := Lib.hid (And.intro hR (And.intro hB hS))
  have HC := Lib.hid hC
  clear h hR hB hS hC
  go_enter Tryz.func99, Tryz.ntmps99
  go_wp2_with fail
  refine (c_anyCircuit HC.out (by omega)).mono ?_
  rintro e w1 ⟨c, gv, ov, rfl, hs, hog, hoo, -, hc1, hg1⟩
  obtain ⟨Ag, cg, eg, -⟩ := own_form hog
  obtain ⟨Ao, co, eo, -⟩ := own_form hoo
  subst eg eo
  have HP := Lib.hid (Ck.start HC.out HW.out.1 (by have := HW.out.2.2; omega) hog hoo hc1 hg1)
  have HS := Lib.hid hs
  clear hog hoo hc1 hg1 hs
  unfold cirV
  go_wp2_with fail
  refine (HP.out.c_secret (by omega)).mono ?_
  rintro e w2 ⟨k, rfl, hP2⟩
  replace HP := Lib.hid hP2
  clear hP2
  go_wp2_with fail
  refine (HP.out.c_offset (by omega)).mono ?_
  rintro e w5 ⟨r, rfl, hP2⟩
  replace HP := Lib.hid hP2
  obtain ⟨x0, x1, x2, x3, f0, f1, f2, f3⟩ := hP2.resf
  obtain ⟨d1, d4, k0, k1, k2, k3⟩ := hP2.done HW.out.2.1 (Nat.le_refl _) (Nat.le_succ _) HW.out.2.1.size
  have HD := Lib.hid (And.intro d1 d4)
  have HK := Lib.hid (And.intro k0 (And.intro k1 (And.intro k2 k3)))
  clear hP2 d1 d4 k0 k1 k2 k3
  go_wp2
  obtain ⟨k0, k1, k2, k3⟩ := HK.out
  exact bodyPost_ret (v := .tuple #[cirV c (.slice Ag c.gs.length cg) (.slice Ao c.outs.length co), .int .i64 k, .int .i64 r]) (by simp [results, Tryz.results99, go_sem, k0, k1, k2, k3, cirV]) rfl ⟨⟨c, _, _, k, r, rfl, HS.out, HD.out.1.1, HD.out.1.2⟩, HD.out.2⟩
theorem c_spec_DrawHalveCircuit (h : Byts w cd l0) : Calls Tryz.prog 9 #[cd] w fun e w' => (∃ (c : Cir) (gv ov : Value) (k r : Int), e = .returned (.tuple #[cirV c gv ov, .int .i64 k, .int .i64 r]) ∧ AnC c ∧ OwnG w' w.heap.size gv c.gs ∧ OwnI w' w.heap.size ov c.outs) ∧ Below w.heap.size w w' := by
  have H := Lib.hid h
  obtain ⟨A0, c0, rfl⟩ := h.form
  clear h
  have hz : w.heap.size < (w.alloc (.cells #[.int .i64 0, .int .i64 0, .slice none 0 0, .slice none 0 0] 26)).heap.size := by simp
  have HR := Lib.hid (Blk.new w 26 #[.int .i64 0, .int .i64 0, .slice none 0 0, .slice none 0 0])
  have HB0 := Lib.hid ((Below.refl w.heap.size w).alloc (Nat.le_refl _) (.cells #[.int .i64 0, .int .i64 0, .slice none 0 0, .slice none 0 0] 26))
  go_enter Tryz.func9, Tryz.ntmps9
  go_wp2_with fail
  refine (c_spec_DrawHalfZeros (H.out.below HB0.out)).mono ?_
  rintro e w1 ⟨⟨c, gv, ov, k, r, rfl, hs, hog, hoo⟩, hb⟩
  have HS := Lib.hid hs
  obtain ⟨Ag, cg, eg, -⟩ := own_form hog
  obtain ⟨Ao, co, eo, -⟩ := own_form hoo
  subst eg eo
  have HO := Lib.hid (And.intro hog hoo)
  have hr := HR.out.step hb
  have r0 := hr.cell 0
  have r1 := hr.cell 1
  have r2 := hr.cell 2
  have r3 := hr.cell 3
  have f0 := hr.free 0
  have f1 := hr.free 1
  have f2 := hr.free 2
  have f3 := hr.free 3
  have hf := (((hr.set_ 0 (.int .i64 c.i0)).set_ 1 (.int .i64 c.i1)).set_ 2 (.slice Ag c.gs.length cg)).set_ 3 (.slice Ao c.outs.length co)
  have hbw : Below w.heap.size w ((((w1.setCell ⟨w.heap.size, 0, none⟩ (.int .i64 c.i0)).setCell ⟨w.heap.size, 1, none⟩ (.int .i64 c.i1)).setCell ⟨w.heap.size, 2, none⟩ (.slice Ag c.gs.length cg)).setCell ⟨w.heap.size, 3, none⟩ (.slice Ao c.outs.length co)) :=
    (((((HB0.out.trans (hb.mono (Nat.le_of_lt hz)))).setCell (p := ⟨w.heap.size, 0, none⟩) (Nat.le_refl _) _).setCell (p := ⟨w.heap.size, 1, none⟩) (Nat.le_refl _) _).setCell (p := ⟨w.heap.size, 2, none⟩) (Nat.le_refl _) _).setCell (p := ⟨w.heap.size, 3, none⟩) (Nat.le_refl _) _
  have HD := Lib.hid (And.intro (hf.cell 0) (And.intro (hf.cell 1) (And.intro (hf.cell 2) (And.intro (hf.cell 3) hbw))))
  clear hs hog hoo hb hr hf hbw
  unfold cirV
  go_wp2
  obtain ⟨k0, k1, k2, k3, hbw⟩ := HD.out
  refine bodyPost_ret (v := .tuple #[cirV c (.slice Ag c.gs.length cg) (.slice Ao c.outs.length co), .int .i64 k, .int .i64 r]) (by simp [results, Tryz.results9, go_sem, k0, k1, k2, k3, cirV]) rfl ⟨⟨c, _, _, k, r, rfl, HS.out, own_mono (own_set4 HO.out.1 hz _ _ _ _) (Nat.le_of_lt hz), OwnI.mono (own_set4 HO.out.2 hz _ _ _ _) (Nat.le_of_lt hz)⟩, hbw⟩
theorem c_spec_DrawGarbleCircuit (h : Byts w cd l0) : Calls Tryz.prog 31 #[cd] w fun e w' => (∃ (c : Cir) (gv ov : Value) (k r : Int), e = .returned (.tuple #[cirV c gv ov, .int .i64 k, .int .i64 r]) ∧ AnC c ∧ OwnG w' w.heap.size gv c.gs ∧ OwnI w' w.heap.size ov c.outs) ∧ Below w.heap.size w w' := by
  have H := Lib.hid h
  obtain ⟨A0, c0, rfl⟩ := h.form
  clear h
  have hz : w.heap.size < (w.alloc (.cells #[.int .i64 0, .int .i64 0, .slice none 0 0, .slice none 0 0] 26)).heap.size := by simp
  have HR := Lib.hid (Blk.new w 26 #[.int .i64 0, .int .i64 0, .slice none 0 0, .slice none 0 0])
  have HB0 := Lib.hid ((Below.refl w.heap.size w).alloc (Nat.le_refl _) (.cells #[.int .i64 0, .int .i64 0, .slice none 0 0, .slice none 0 0] 26))
  go_enter Tryz.func31, Tryz.ntmps31
  go_wp2_with fail
  refine (c_spec_DrawZeroLabels (H.out.below HB0.out)).mono ?_
  rintro e w1 ⟨⟨c, gv, ov, k, r, rfl, hs, hog, hoo⟩, hb⟩
  have HS := Lib.hid hs
  obtain ⟨Ag, cg, eg, -⟩ := own_form hog
  obtain ⟨Ao, co, eo, -⟩ := own_form hoo
  subst eg eo
  have HO := Lib.hid (And.intro hog hoo)
  have hr := HR.out.step hb
  have r0 := hr.cell 0
  have r1 := hr.cell 1
  have r2 := hr.cell 2
  have r3 := hr.cell 3
  have f0 := hr.free 0
  have f1 := hr.free 1
  have f2 := hr.free 2
  have f3 := hr.free 3
  have hf := (((hr.set_ 0 (.int .i64 c.i0)).set_ 1 (.int .i64 c.i1)).set_ 2 (.slice Ag c.gs.length cg)).set_ 3 (.slice Ao c.outs.length co)
  have hbw : Below w.heap.size w ((((w1.setCell ⟨w.heap.size, 0, none⟩ (.int .i64 c.i0)).setCell ⟨w.heap.size, 1, none⟩ (.int .i64 c.i1)).setCell ⟨w.heap.size, 2, none⟩ (.slice Ag c.gs.length cg)).setCell ⟨w.heap.size, 3, none⟩ (.slice Ao c.outs.length co)) :=
    (((((HB0.out.trans (hb.mono (Nat.le_of_lt hz)))).setCell (p := ⟨w.heap.size, 0, none⟩) (Nat.le_refl _) _).setCell (p := ⟨w.heap.size, 1, none⟩) (Nat.le_refl _) _).setCell (p := ⟨w.heap.size, 2, none⟩) (Nat.le_refl _) _).setCell (p := ⟨w.heap.size, 3, none⟩) (Nat.le_refl _) _
  have HD := Lib.hid (And.intro (hf.cell 0) (And.intro (hf.cell 1) (And.intro (hf.cell 2) (And.intro (hf.cell 3) hbw))))
  clear hs hog hoo hb hr hf hbw
  unfold cirV
  go_wp2
  obtain ⟨k0, k1, k2, k3, hbw⟩ := HD.out
  refine bodyPost_ret (v := .tuple #[cirV c (.slice Ag c.gs.length cg) (.slice Ao c.outs.length co), .int .i64 k, .int .i64 r]) (by simp [results, Tryz.results31, go_sem, k0, k1, k2, k3, cirV]) rfl ⟨⟨c, _, _, k, r, rfl, HS.out, own_mono (own_set4 HO.out.1 hz _ _ _ _) (Nat.le_of_lt hz), OwnI.mono (own_set4 HO.out.2 hz _ _ _ _) (Nat.le_of_lt hz)⟩, hbw⟩
end
end Go.Proofs.YtejeppjmlgfiaaaGreat
