/- Tables of a draw: a box that holds them, and their slices, which the draw owns. Plain lemmas; no condition but those that each names. -/
import Derived.Test.YtejeppjmlgfiaaaGreatSta
import Derived.Test.YtejeppjmlgfiaaaGreatDrY
import Derived.Test.YtejeppjmlgfiaaaGreatDrZ
import Derived.Test.YtejeppjmlgfiaaaGreatBase
import Derived.Deep.RegionHeld3
import Derived.Test.YtejeppjmlgfiaaaGreatInpL
import Derived.Test.YtejeppjmlgfiaaaGreatGbK
namespace Go.Proofs.YtejeppjmlgfiaaaGreat
open Go.RowKit
set_option linter.unusedVariables false

/-- The first blocks of a world. -/
def trunc (w : World) (n : Nat) : World := { w with heap := w.heap.extract 0 n }
theorem trunc_size {w : World} {n : Nat} (h : n ≤ w.heap.size) : (trunc w n).heap.size = n := by simp [trunc]; omega
theorem trunc_below {w : World} {n : Nat} (h : n ≤ w.heap.size) : Below (trunc w n).heap.size (trunc w n) w := by
  refine ⟨rfl, rfl, rfl, by rw [trunc_size h]; exact h, fun i hi => ?_⟩
  rw [trunc_size h] at hi
  show w.heap[i]? = (w.heap.extract 0 n)[i]?
  rw [Array.getElem?_extract]
  simp
  intro h2; omega
/-- The box y holds the tables g. -/
structure Tb (B : Nat) (wr : World) (y : Nat) (t : TypeId) (rv ov cv : Value) (vs : List Value) (g : Gb) : Prop where
  blk : Blk wr y t #[rv, ov, cv]
  own : OwnGb wr B rv ov cv vs g
  far : ∀ u ∈ ov :: cv :: rv :: vs, u.ownBlock ≠ some y
  lo : B ≤ y
section
variable {B y k : Nat} {t : TypeId} {wr w' w1 w2 : World} {rv ov cv v' u : Value} {vs : List Value} {g : Gb} {r : List Int} {x : Int}
theorem Tb.size (h : Tb B wr y t rv ov cv vs g) : B ≤ wr.heap.size := by have := h.blk.lt; have := h.lo; omega
theorem Tb.sta (h : Tb B wr y t rv ov cv vs g) : Sta t wr (trunc wr B) y rv ov cv vs g := by
  have hs := trunc_size h.size
  exact ⟨h.blk, by rw [hs]; exact h.own, h.far, by rw [hs]; exact h.lo, trunc_below h.size⟩
theorem Sta.tb {w0 : World} (h : Sta t wr w0 y rv ov cv vs g) (hs : w0.heap.size = B) : Tb B wr y t rv ov cv vs g := by
  subst hs; exact ⟨h.blk, h.own, h.far, h.lo⟩
theorem Tb.draw (h : Tb B wr y t rv ov cv vs g) (hk : k < B) (hg : wr.grownBy w' (some k)) : Tb B w' y t rv ov cv vs g := by
  have hO : Only [.slice (some ⟨k, 0, none⟩) 0 0] wr w' := Only.ofGrown (v := .slice (some ⟨k, 0, none⟩) 0 0) hg (by simp)
  refine ⟨h.blk.grown hg (fun e => by injection e with e; have := h.lo; omega), h.own.apartFrom hO (fun u hu b hb => ?_), h.far, h.lo⟩
  simp at hu; subst hu; simp [Value.ownBlock] at hb; omega
theorem Tb.below (h : Tb B wr y t rv ov cv vs g) (hb : Below wr.heap.size wr w') : Tb B w' y t rv ov cv vs g := ⟨h.blk.step hb, h.own.below hb, h.far, h.lo⟩
theorem Tb.drew (h : Tb B wr y t rv ov cv vs g) : Tb B wr.drew y t rv ov cv vs g := h.below (Below.refl _ _).drew
theorem Tb.gb (h : Tb B wr y t rv ov cv vs g) : GbIn wr rv ov cv g := h.own.gbIn
theorem Tb.three (h : Tb B wr y t rv ov cv vs g) : wr.cell? ⟨y, 0, none⟩ = some rv ∧ wr.cell? ⟨y, 1, none⟩ = some ov ∧ wr.cell? ⟨y, 2, none⟩ = some cv := ⟨h.blk.cell 0, h.blk.cell 1, h.blk.cell 2⟩
theorem Tb.new (hB : B ≤ wr.heap.size) (h : OwnGb wr B rv ov cv vs g) : Tb B (wr.alloc (.cells #[rv, ov, cv] t)) wr.heap.size t rv ov cv vs g :=
  ⟨Blk.new _ _ _, h.below ((Below.refl _ _).alloc (Nat.le_refl _) _), fun u hu e => by have := (h.bd u hu _ e).2; omega, hB⟩
theorem Tb.row (h : Tb B wr y t rv ov cv vs g) (hb : Below wr.heap.size wr w1) (hu : OwnI w1 wr.heap.size u r)
    (ho : w2.ownsRow B 24 1 v' (g.rows.length + 1) (vs ++ [u])) (hg : w1.grownBy w2 rv.ownBlock) (hfr : ∀ g, v'.ownBlock = some g → rv.ownBlock = some g ∨ w1.heap.size ≤ g) :
    Tb B (w2.setCell ⟨y, 0, none⟩ v') y t v' ov cv (vs ++ [u]) ⟨g.rows ++ [r], g.ones, g.cols⟩ :=
  (h.sta.row hb hu (by rw [trunc_size h.size]; exact ho) hg hfr).tb (trunc_size h.size)
theorem Tb.one (h : Tb B wr y t rv ov cv vs g) (hb : Below wr.heap.size wr w1)
    (ho : OwnI w2 B v' (g.ones ++ [x])) (hg : w1.grownBy w2 ov.ownBlock) (hfr : ∀ g, v'.ownBlock = some g → ov.ownBlock = some g ∨ w1.heap.size ≤ g) :
    Tb B (w2.setCell ⟨y, 1, none⟩ v') y t rv v' cv vs ⟨g.rows, g.ones ++ [x], g.cols⟩ :=
  (h.sta.one hb (by rw [trunc_size h.size]; exact ho) hg hfr).tb (trunc_size h.size)
theorem apt_set {us : List Value} (h : us.Pairwise Apt) {i : Nat} (hu : ∀ z ∈ us, Apt u z ∧ Apt z u) : (us.set i u).Pairwise Apt := by
  rw [List.pairwise_iff_getElem] at h ⊢
  intro a b ha hb hab
  rw [List.length_set] at ha hb
  rw [List.getElem_set, List.getElem_set]
  split
  · split
    · omega
    · exact (hu _ (List.getElem_mem hb)).1
  · split
    · exact (hu _ (List.getElem_mem ha)).2
    · exact h a b ha hb hab
/-- Another row in the place of one. -/
theorem OwnRs.swap {bv n c i : Nat} {rows : List (List Int)} {w : World} (h : OwnRs w B (.slice (some ⟨bv, 0, none⟩) n c) vs rows) (hu : OwnI w B u r) (ha : ∀ z ∈ (Value.slice (some ⟨bv, 0, none⟩) n c) :: vs, Apt u z) :
    OwnRs (w.setCell ⟨bv, i, none⟩ u) B (.slice (some ⟨bv, 0, none⟩) n c) (vs.set i u) (rows.set i r) := by
  have hap := List.pairwise_cons.1 h.apart
  have hub : ∀ b, u.ownBlock = some b → b ≠ bv := fun b hb e => ha (.slice (some ⟨bv, 0, none⟩) n c) (by simp) b hb (by rw [e]; rfl)
  refine ⟨by simp [h.len], ?_, fun j z q hz hq => ?_, ?_⟩
  · obtain rfl : n = rows.length := by
      obtain ⟨A, c', e, -⟩ := own_form h.outer
      injection e
    have h1 := (World.ownsRow.stored h.outer i u).1
    rw [List.length_set]; exact h1
  · by_cases hji : j = i
    · subst hji
      have hl : j < vs.length := by have := (List.getElem?_eq_some_iff.1 hz).1; simpa using this
      rw [List.getElem?_set_self hl] at hz
      rw [List.getElem?_set_self (by have := h.len; omega)] at hq
      injection hz with hz; injection hq with hq
      subst hz hq
      exact hu.far (p := ⟨bv, j, none⟩) hub _
    · rw [List.getElem?_set_ne (fun e => hji e.symm)] at hz hq
      exact (h.inner j z q hz hq).far (p := ⟨bv, i, none⟩) (fun b hb e => hap.1 z (List.mem_of_getElem? hz) bv rfl (by rw [hb, e])) _
  · rw [show (Value.slice (some ⟨bv, 0, none⟩) n c) :: vs.set i u = ((Value.slice (some ⟨bv, 0, none⟩) n c) :: vs).set (i + 1) u from rfl]
    exact apt_set h.apart fun z hz => ⟨ha z hz, (ha z hz).symm⟩
theorem Tb.swap {bv n c i : Nat} (h : Tb B wr y t (.slice (some ⟨bv, 0, none⟩) n c) ov cv vs g) (hu : OwnI wr B u r) (ha : ∀ z ∈ ov :: cv :: (Value.slice (some ⟨bv, 0, none⟩) n c) :: vs, Apt u z) (huy : u.ownBlock ≠ some y) :
    Tb B (wr.setCell ⟨bv, i, none⟩ u) y t (.slice (some ⟨bv, 0, none⟩) n c) ov cv (vs.set i u) ⟨g.rows.set i r, g.ones, g.cols⟩ := by
  have hap := List.pairwise_cons.1 h.own.apart
  have hap2 := List.pairwise_cons.1 hap.2
  have hby : bv ≠ y := fun e => h.far (.slice (some ⟨bv, 0, none⟩) n c) (by simp) (by rw [← e]; rfl)
  refine ⟨h.blk.far (p := ⟨bv, i, none⟩) (fun e => hby e.symm) _, ⟨h.own.rows.swap hu (fun z hz => ha z (List.mem_cons_of_mem _ (List.mem_cons_of_mem _ hz))), ?_, ?_, ?_⟩, fun z hz e => ?_, h.lo⟩
  · exact h.own.ones.far (p := ⟨bv, i, none⟩) (fun b hb e => hap.1 (.slice (some ⟨bv, 0, none⟩) n c) (by simp) b hb (by rw [e]; rfl)) _
  · exact h.own.cols.far (p := ⟨bv, i, none⟩) (fun b hb e => hap2.1 (.slice (some ⟨bv, 0, none⟩) n c) (by simp) b hb (by rw [e]; rfl)) _
  · rw [show ov :: cv :: (Value.slice (some ⟨bv, 0, none⟩) n c) :: vs.set i u = (ov :: cv :: (Value.slice (some ⟨bv, 0, none⟩) n c) :: vs).set (i + 3) u from rfl]
    exact apt_set h.own.apart fun z hz => ⟨ha z hz, (ha z hz).symm⟩
  · rcases List.mem_cons.1 hz with rfl | hz
    · exact h.far _ (by simp) e
    · rcases List.mem_cons.1 hz with rfl | hz
      · exact h.far _ (by simp) e
      · rcases List.mem_cons.1 hz with rfl | hz
        · exact h.far _ (by simp) e
        · rcases List.mem_or_eq_of_mem_set hz with hz | rfl
          · exact h.far z (by simp [hz]) e
          · exact huy e
/-- A colour is written. -/
theorem Tb.col {bc n c i : Nat} (h : Tb B wr y t rv ov (.slice (some ⟨bc, 0, none⟩) n c) vs g) : Tb B (wr.setCell ⟨bc, i, none⟩ (.int .i64 x)) y t rv ov (.slice (some ⟨bc, 0, none⟩) n c) vs ⟨g.rows, g.ones, g.cols.set i x⟩ := by
  have hap := List.pairwise_cons.1 h.own.apart
  have hap2 := List.pairwise_cons.1 hap.2
  have hcy : bc ≠ y := fun e => h.far (.slice (some ⟨bc, 0, none⟩) n c) (by simp) (by rw [← e]; rfl)
  refine ⟨h.blk.far (p := ⟨bc, i, none⟩) (fun e => hcy e.symm) _, ⟨h.own.rows.only (only_set wr bc i _) (fun z hz z' hz' b hb e => ?_), ?_, h.own.cols.put i x, h.own.apart⟩, h.far, h.lo⟩
  · simp at hz; subst hz
    simp [Value.ownBlock] at hb; subst hb
    exact hap2.1 z' hz' bc rfl e
  · exact h.own.ones.far (p := ⟨bc, i, none⟩) (fun b hb e => hap.1 (.slice (some ⟨bc, 0, none⟩) n c) (by simp) b hb (by rw [e]; rfl)) _
end
end Go.Proofs.YtejeppjmlgfiaaaGreat

/- What a draw of a circuit with tables has in hand. Plain lemmas; no condition but those that each names. -/
namespace Go.Proofs.YtejeppjmlgfiaaaGreat
open Go.RowKit
set_option linter.unusedVariables false
set_option maxHeartbeats 4000000
section
variable {W w wr w' : World} {g n m rb r2 x y : Nat} {cd : Value} {t2 : TypeId} {c : Cir} {gv ov rv nv cv : Value} {vs : List Value} {G : Gb}
/-- A circuit is drawn, it lies in a box too; the boxes of both results are empty yet. -/
structure Hv (W : World) (g : Nat) (cd : Value) (n rb r2 x : Nat) (t2 : TypeId) (c : Cir) (gv ov : Value) (wr : World) : Prop where
  gates : OwnG wr W.heap.size gv c.gs
  outs : OwnI wr W.heap.size ov c.outs
  box : Blk wr x 26 #[.int .i64 c.i0, .int .i64 c.i1, gv, ov]
  res : Blk wr rb 26 #[.int .i64 0, .int .i64 0, .slice none 0 0, .slice none 0 0]
  res2 : Blk wr r2 t2 #[.slice none 0 0, .slice none 0 0, .slice none 0 0]
  cur : Cur wr g cd n
  grown : W.grownBy wr (some g)
  lt : g < W.heap.size ∧ rb < W.heap.size ∧ r2 < W.heap.size ∧ rb ≠ g ∧ r2 ≠ g ∧ rb ≠ r2 ∧ W.heap.size ≤ x
theorem Hv.draw (h : Hv W g cd n rb r2 x t2 c gv ov wr) (hg : wr.grownBy w' (some g)) (hc : Cur w' g cd m) : Hv W g cd m rb r2 x t2 c gv ov w' := by
  obtain ⟨h1, h2, h3, h4, h5, h6, h7⟩ := h.lt
  exact ⟨own_grown h.gates hg (fun b hb e => by have := own_ge h.gates b hb; injection e with e; omega), own_app h.outs h1 hg, h.box.grown hg (by simp; omega), h.res.grown hg (by simp; omega), h.res2.grown hg (by simp; omega), hc, only_trans h.grown hg, h.lt⟩
theorem Hv.below (h : Hv W g cd n rb r2 x t2 c gv ov wr) (hb : Below wr.heap.size wr w') : Hv W g cd n rb r2 x t2 c gv ov w' :=
  ⟨h.gates.below hb, h.outs.below hb, h.box.step hb, h.res.step hb, h.res2.step hb, h.cur.below hb, only_trans h.grown (only_below hb _), h.lt⟩
theorem Hv.drew (h : Hv W g cd n rb r2 x t2 c gv ov wr) : Hv W g cd n rb r2 x t2 c gv ov wr.drew := h.below (Below.refl _ _).drew
theorem Hv.alloc (h : Hv W g cd n rb r2 x t2 c gv ov wr) (o : Obj) : Hv W g cd n rb r2 x t2 c gv ov (wr.alloc o) := h.below ((Below.refl _ _).alloc (Nat.le_refl _) o)
theorem Hv.more (h : Hv W g cd n rb r2 x t2 c gv ov wr) (hm : n ≤ m) : Hv W g cd m rb r2 x t2 c gv ov wr := ⟨h.gates, h.outs, h.box, h.res, h.res2, h.cur.mono hm, h.grown, h.lt⟩
theorem Hv.cir (h : Hv W g cd n rb r2 x t2 c gv ov wr) : CirIn wr gv ov c := ⟨h.gates.gates, h.outs.ints⟩
theorem Hv.four (h : Hv W g cd n rb r2 x t2 c gv ov wr) : wr.cell? ⟨x, 0, none⟩ = some (.int .i64 c.i0) ∧ wr.cell? ⟨x, 1, none⟩ = some (.int .i64 c.i1) ∧ wr.cell? ⟨x, 2, none⟩ = some gv ∧ wr.cell? ⟨x, 3, none⟩ = some ov := ⟨h.box.cell 0, h.box.cell 1, h.box.cell 2, h.box.cell 3⟩
theorem Hv.resf (h : Hv W g cd n rb r2 x t2 c gv ov wr) : (wr.cell? ⟨rb, 0, none⟩ = some (.int .i64 0) ∧ wr.cell? ⟨rb, 1, none⟩ = some (.int .i64 0) ∧ wr.cell? ⟨rb, 2, none⟩ = some (.slice none 0 0) ∧ wr.cell? ⟨rb, 3, none⟩ = some (.slice none 0 0) ∧
    wr.frozen? ⟨rb, 0, none⟩ = false ∧ wr.frozen? ⟨rb, 1, none⟩ = false ∧ wr.frozen? ⟨rb, 2, none⟩ = false ∧ wr.frozen? ⟨rb, 3, none⟩ = false) ∧
    wr.cell? ⟨r2, 0, none⟩ = some (.slice none 0 0) ∧ wr.cell? ⟨r2, 1, none⟩ = some (.slice none 0 0) ∧ wr.cell? ⟨r2, 2, none⟩ = some (.slice none 0 0) ∧ wr.frozen? ⟨r2, 0, none⟩ = false ∧ wr.frozen? ⟨r2, 1, none⟩ = false ∧ wr.frozen? ⟨r2, 2, none⟩ = false :=
  ⟨⟨h.res.cell 0, h.res.cell 1, h.res.cell 2, h.res.cell 3, h.res.free 0, h.res.free 1, h.res.free 2, h.res.free 3⟩, h.res2.cell 0, h.res2.cell 1, h.res2.cell 2, h.res2.free 0, h.res2.free 1, h.res2.free 2⟩
theorem Hv.start {w1 : World} (hW : Cur W g cd m) (hres : Blk W rb 26 #[.int .i64 0, .int .i64 0, .slice none 0 0, .slice none 0 0]) (hres2 : Blk W r2 t2 #[.slice none 0 0, .slice none 0 0, .slice none 0 0]) (hlt : g < W.heap.size ∧ rb < W.heap.size ∧ r2 < W.heap.size ∧ rb ≠ g ∧ r2 ≠ g ∧ rb ≠ r2)
    (h1 : OwnG w1 W.heap.size gv c.gs) (h2 : OwnI w1 W.heap.size ov c.outs) (hc : Cur w1 g cd n) (hg : W.grownBy w1 (some g)) :
    Hv W g cd n rb r2 w1.heap.size t2 c gv ov (w1.alloc (.cells #[.int .i64 c.i0, .int .i64 c.i1, gv, ov] 26)) := by
  have hb := (Below.refl w1.heap.size w1).alloc (Nat.le_refl _) (.cells #[.int .i64 c.i0, .int .i64 c.i1, gv, ov] 26)
  obtain ⟨l1, l2, l3, l4, l5, l6⟩ := hlt
  exact ⟨h1.below hb, h2.below hb, Blk.new _ _ _, (hres.grown hg (by simp; omega)).step hb, (hres2.grown hg (by simp; omega)).step hb, hc.below hb, only_trans hg (only_below hb _), l1, l2, l3, l4, l5, l6, hg.size⟩
theorem Hv.c_pick {k : Int} (h : Hv W g cd n rb r2 x t2 c gv ov wr) (hn : n ≤ 1000000000) (hm : k ≤ 9223372036854775807) :
    Calls Tryz.prog 55 #[.pointer (some ⟨g, 0, none⟩), .int .i64 k] wr fun e w' => ∃ r : Int, e = .returned (.int .i64 r) ∧ 0 ≤ r ∧ (r < k ∨ k ≤ 0) ∧ Hv W g cd (n + 2) rb r2 x t2 c gv ov w' ∧ wr.grownBy w' (some g) :=
  (Go.Proofs.YtejeppjmlgfiaaaGreat.c_pick h.cur (by omega) hm).mono fun e w' ⟨v, e1, ⟨r, e2, h0, _, h1⟩, hc, hg⟩ => ⟨r, by rw [e1, e2], h0, h1, h.draw hg hc, hg⟩
/-- The block y is new: nothing that is at hand lies there. -/
structure Fr (g x y lo : Nat) (gv ov : Value) : Prop where
  lo : lo ≤ y
  ng : g ≠ y
  nx : x ≠ y
  ngv : gv.ownBlock ≠ some y
  nov : ov.ownBlock ≠ some y
theorem Fr.blk {y : Nat} {t : TypeId} {cs : Array Value} {lo : Nat} (f : Fr g x y lo gv ov) (hb : Blk wr y t cs) (hg : wr.grownBy w' (some g)) : Blk w' y t cs := hb.grown hg (by simp; have := f.ng; omega)
theorem Hv.fresh (h : Hv W g cd n rb r2 x t2 c gv ov wr) : Fr g x wr.heap.size W.heap.size gv ov := by
  have h1 := h.grown.size
  have h2 := h.lt
  have h3 := h.box.lt
  exact ⟨h1, by omega, by omega, fun e => by have := own_lt h.gates _ e; omega, fun e => by have := h.outs.lt _ e; omega⟩
theorem Hv.far3 (h : Hv W g cd n rb r2 x t2 c gv ov wr) {y : Nat} (f : Fr g x y W.heap.size gv ov) (a0 a1 a2 : Value) :
    let w9 := ((wr.setCell ⟨y, 0, none⟩ a0).setCell ⟨y, 1, none⟩ a1).setCell ⟨y, 2, none⟩ a2
    w9.cell? ⟨x, 0, none⟩ = some (.int .i64 c.i0) ∧ w9.cell? ⟨x, 1, none⟩ = some (.int .i64 c.i1) ∧ w9.cell? ⟨x, 2, none⟩ = some gv ∧ w9.cell? ⟨x, 3, none⟩ = some ov := by
  intro w9
  have hb := ((h.box.far (p := ⟨y, 0, none⟩) f.nx a0).far (p := ⟨y, 1, none⟩) f.nx a1).far (p := ⟨y, 2, none⟩) f.nx a2
  exact ⟨hb.cell 0, hb.cell 1, hb.cell 2, hb.cell 3⟩
theorem Hv.putY (h : Hv W g cd n rb r2 x t2 c gv ov wr) (h0 : CodeIn W cd g) {y : Nat} (f : Fr g x y W.heap.size gv ov) (i : Nat) (a : Value) : Hv W g cd n rb r2 x t2 c gv ov (wr.setCell ⟨y, i, none⟩ a) := by
  have h2 := h.lt
  have h3 := f.lo
  have hb : Below W.heap.size wr (wr.setCell ⟨y, i, none⟩ a) := (Below.refl _ _).setCell (p := ⟨y, i, none⟩) f.lo a
  obtain ⟨hc, hg⟩ := Cur.low h0 h.cur h.grown hb h2.1
  exact ⟨own_set (p := ⟨y, i, none⟩) h.gates (fun b hb e => f.ngv (by rw [hb, e])) a, own_set (p := ⟨y, i, none⟩) h.outs (fun b hb e => f.nov (by rw [hb, e])) a,
    h.box.far (p := ⟨y, i, none⟩) f.nx a, h.res.far (p := ⟨y, i, none⟩) (by show rb ≠ y; omega) a, h.res2.far (p := ⟨y, i, none⟩) (by show r2 ≠ y; omega) a, hc, hg, h.lt⟩
theorem Hv.put3 (h : Hv W g cd n rb r2 x t2 c gv ov wr) (h0 : CodeIn W cd g) {y : Nat} (f : Fr g x y W.heap.size gv ov) (a0 a1 a2 : Value) : Hv W g cd n rb r2 x t2 c gv ov (((wr.setCell ⟨y, 0, none⟩ a0).setCell ⟨y, 1, none⟩ a1).setCell ⟨y, 2, none⟩ a2) :=
  ((h.putY h0 f 0 a0).putY h0 f 1 a1).putY h0 f 2 a2
theorem Tb.fill {B y : Nat} {a0 a1 a2 : Value} {t : TypeId} (hb : Blk wr y t #[a0, a1, a2]) (h : OwnGb wr B rv nv cv vs G) (hf : ∀ u ∈ nv :: cv :: rv :: vs, u.ownBlock ≠ some y) (hlo : B ≤ y) :
    Tb B (((wr.setCell ⟨y, 0, none⟩ rv).setCell ⟨y, 1, none⟩ nv).setCell ⟨y, 2, none⟩ cv) y t rv nv cv vs G := by
  have key : ∀ {w1 : World} (i : Nat) (u : Value), OwnGb w1 B rv nv cv vs G → OwnGb (w1.setCell ⟨y, i, none⟩ u) B rv nv cv vs G := fun i u h9 =>
    h9.only (only_set _ y i u) fun z hz z' hz' b hb e => by
      simp at hz; subst hz
      simp [Value.ownBlock] at hb; subst hb
      exact hf z' hz' e
  have hk := ((hb.set_ 0 rv).set_ 1 nv).set_ 2 cv
  exact ⟨by simpa using hk, key 2 cv (key 1 nv (key 0 rv h)), hf, hlo⟩
/-- Both results are stored. -/
theorem Hv.done (h : Hv W g cd n rb r2 x t2 c gv ov wr) (ht : OwnGb wr W.heap.size rv nv cv vs G) :
    let w9 := ((((((wr.setCell ⟨rb, 0, none⟩ (.int .i64 c.i0)).setCell ⟨rb, 1, none⟩ (.int .i64 c.i1)).setCell ⟨rb, 2, none⟩ gv).setCell ⟨rb, 3, none⟩ ov).setCell ⟨r2, 0, none⟩ rv).setCell ⟨r2, 1, none⟩ nv).setCell ⟨r2, 2, none⟩ cv
    (OwnG w9 W.heap.size gv c.gs ∧ OwnI w9 W.heap.size ov c.outs ∧ OwnGb w9 W.heap.size rv nv cv vs G) ∧
    (w9.cell? ⟨rb, 0, none⟩ = some (.int .i64 c.i0) ∧ w9.cell? ⟨rb, 1, none⟩ = some (.int .i64 c.i1) ∧ w9.cell? ⟨rb, 2, none⟩ = some gv ∧ w9.cell? ⟨rb, 3, none⟩ = some ov) ∧
    (w9.cell? ⟨r2, 0, none⟩ = some rv ∧ w9.cell? ⟨r2, 1, none⟩ = some nv ∧ w9.cell? ⟨r2, 2, none⟩ = some cv) := by
  intro w9
  obtain ⟨l1, l2, l3, l4, l5, l6, l7⟩ := h.lt
  have key : ∀ {E sz k : Nat} {y : Value} {xs : List Value}, wr.ownsRow W.heap.size E sz y k xs → w9.ownsRow W.heap.size E sz y k xs := fun {E sz k y xs} h9 => by
    have hne : ∀ b, y.ownBlock = some b → b ≠ rb := fun b hb => by have := own_ge h9 b hb; omega
    have hne2 : ∀ b, y.ownBlock = some b → b ≠ r2 := fun b hb => by have := own_ge h9 b hb; omega
    exact own_set (p := ⟨r2, 2, none⟩) (own_set (p := ⟨r2, 1, none⟩) (own_set (p := ⟨r2, 0, none⟩) (own_set (p := ⟨rb, 3, none⟩) (own_set (p := ⟨rb, 2, none⟩) (own_set (p := ⟨rb, 1, none⟩) (own_set (p := ⟨rb, 0, none⟩) h9 hne _) hne _) hne _) hne _) hne2 _) hne2 _) hne2 _
  have hGb : OwnGb w9 W.heap.size rv nv cv vs G := ((((((ht.setLow l2 0 _).setLow l2 1 _).setLow l2 2 _).setLow l2 3 _).setLow l3 0 _).setLow l3 1 _).setLow l3 2 _
  have hf := ((((((h.res.set_ 0 (.int .i64 c.i0)).set_ 1 (.int .i64 c.i1)).set_ 2 gv).set_ 3 ov).far (p := ⟨r2, 0, none⟩) l6 rv).far (p := ⟨r2, 1, none⟩) l6 nv).far (p := ⟨r2, 2, none⟩) l6 cv
  have hk := ((((((h.res2.far (p := ⟨rb, 0, none⟩) (fun e => l6 e.symm) (.int .i64 c.i0)).far (p := ⟨rb, 1, none⟩) (fun e => l6 e.symm) (.int .i64 c.i1)).far (p := ⟨rb, 2, none⟩) (fun e => l6 e.symm) gv).far (p := ⟨rb, 3, none⟩) (fun e => l6 e.symm) ov).set_ 0 rv).set_ 1 nv).set_ 2 cv
  exact ⟨⟨key h.gates, key h.outs, hGb⟩, ⟨hf.cell 0, hf.cell 1, hf.cell 2, hf.cell 3⟩, hk.cell 0, hk.cell 1, hk.cell 2⟩
theorem Hv.ret (h : Hv W g cd n w.heap.size (w.heap.size + 1) x t2 c gv ov wr) (ht : OwnGb wr W.heap.size rv nv cv vs G) (hW : Below w.heap.size w W) (hs : W.heap.size = w.heap.size + 2) (h0 : CodeIn w cd g) (hgl : g < w.heap.size) :
    let w9 := ((((((wr.setCell ⟨w.heap.size, 0, none⟩ (.int .i64 c.i0)).setCell ⟨w.heap.size, 1, none⟩ (.int .i64 c.i1)).setCell ⟨w.heap.size, 2, none⟩ gv).setCell ⟨w.heap.size, 3, none⟩ ov).setCell ⟨w.heap.size + 1, 0, none⟩ rv).setCell ⟨w.heap.size + 1, 1, none⟩ nv).setCell ⟨w.heap.size + 1, 2, none⟩ cv
    OwnG w9 w.heap.size gv c.gs ∧ OwnI w9 w.heap.size ov c.outs ∧ OwnGb w9 w.heap.size rv nv cv vs G ∧ Cur w9 g cd n ∧ w.grownBy w9 (some g) := by
  intro w9
  obtain ⟨⟨d1, d2, d3⟩, -, -⟩ := h.done ht
  have hb : Below w.heap.size wr w9 := ((((((((Below.refl _ _).setCell (p := ⟨w.heap.size, 0, none⟩) (Nat.le_refl _) _).setCell (p := ⟨w.heap.size, 1, none⟩) (Nat.le_refl _) _).setCell (p := ⟨w.heap.size, 2, none⟩) (Nat.le_refl _) _).setCell (p := ⟨w.heap.size, 3, none⟩) (Nat.le_refl _) _).setCell (p := ⟨w.heap.size + 1, 0, none⟩) (Nat.le_succ _) _).setCell (p := ⟨w.heap.size + 1, 1, none⟩) (Nat.le_succ _) _).setCell (p := ⟨w.heap.size + 1, 2, none⟩) (Nat.le_succ _) _)
  have h1 := Cur.low h0 h.cur (only_trans (only_below hW (some g)) h.grown) hb hgl
  exact ⟨own_mono d1 (by omega), d2.mono (by omega), d3.mono (by omega), h1.1, h1.2⟩
end
end Go.Proofs.YtejeppjmlgfiaaaGreat

/- A region that draws its order, by what holds whatever has come up: each operation is walked once. Plain definitions and lemmas; no condition but those that each names. -/
namespace Go.Proofs.YtejeppjmlgfiaaaGreat
open Go.RowKit
set_option linter.unusedVariables false
/-- A goal shut away: while data are opened nothing looks into it. -/
structure Shut (p : Prop) : Prop where
  out : p
section
variable {P : Program} {ops : Array Oper} {Q : Exit → Act → World → Prop}
/-- Each operation waits only for those in front of it. -/
def acyc (ops : Array Oper) : Bool := (List.range ops.size).all fun i => ((ops[i]?).map fun o => o.after.all fun e => !Region.binds .any e || decide (e.on < i)).getD true
theorem all_of_ready (hac : acyc ops = true) {L : Array Bool} (hsz : L.size = ops.size) (hr : Region.ready .any ops L = []) : ∀ i, i < ops.size → L.getD i false = true := by
  intro i
  induction i using Nat.strongRecOn with
  | _ i ih =>
    intro hi
    cases hl : L.getD i false with
    | true => rfl
    | false =>
      exfalso
      have ho : ops[i]? = some ops[i] := Array.getElem?_eq_getElem hi
      have hmem : i ∈ Region.ready .any ops L := by
        unfold Region.ready
        rw [List.mem_filter]
        refine ⟨List.mem_range.2 hi, ?_⟩
        have hli : i < L.size := by omega
        have hl2 : L.getD i true = false := by simp [hli] at hl ⊢; exact hl
        rw [hl2, ho]
        simp only [Bool.not_false, Option.map_some, Option.getD_some, Bool.true_and, Array.all_eq_true_iff_forall_mem]
        intro e he
        have h1 := List.all_eq_true.1 hac i (List.mem_range.2 hi)
        rw [ho] at h1
        simp only [Option.map_some, Option.getD_some, Array.all_eq_true_iff_forall_mem, Bool.or_eq_true, Bool.not_eq_true', decide_eq_true_eq] at h1
        rcases h1 e he with h2 | h2
        · rw [h2]; rfl
        · rw [ih e.on h2 (by omega)]
          simp
      rw [hr] at hmem
      cases hmem
def unl (L : Array Bool) : Nat := L.toList.count false
def usd (L : Array Bool) : Nat := L.toList.count true
theorem unl_set {L : Array Bool} {i : Nat} (h : L.getD i true = false) : unl (L.setIfInBounds i true) + 1 = unl L := by
  have hi : i < L.size := by
    rcases Nat.lt_or_ge i L.size with h' | h'
    · exact h'
    · simp [Nat.not_lt.2 h'] at h
  have hv : L.toList[i]'(by simpa using hi) = false := by simp [hi] at h; simpa using h
  unfold unl
  rw [Array.toList_setIfInBounds, List.count_set (by simpa using hi), hv]
  have h0 : 0 < L.toList.count false := List.count_pos_iff.2 (by rw [← hv]; exact List.getElem_mem _)
  have h1 : (true == false) = false := rfl
  simp only [beq_self_eq_true, if_true, h1, Bool.false_eq_true, if_false]
  omega
theorem usd_set {L : Array Bool} {i : Nat} (h : L.getD i true = false) : usd (L.setIfInBounds i true) = usd L + 1 := by
  have hi : i < L.size := by
    rcases Nat.lt_or_ge i L.size with h' | h'
    · exact h'
    · simp [Nat.not_lt.2 h'] at h
  have hv : L.toList[i]'(by simpa using hi) = false := by simp [hi] at h; simpa using h
  unfold usd
  rw [Array.toList_setIfInBounds, List.count_set (by simpa using hi), hv]
  simp
theorem usd_le (L : Array Bool) : usd L ≤ L.size := by unfold usd; exact List.count_le_length
theorem usd_new (n : Nat) : usd (Array.replicate n false) = 0 := by simp [usd, List.count_replicate]
/-- Every operation, from number k on: from whatever holds it goes on to what holds behind it. -/
inductive Steps1 (P : Program) (I : Array Bool → Act → World → Prop) : Nat → List Oper → Prop
  | nil (k : Nat) : Steps1 P I k []
  | cons (k : Nat) (o : Oper) (os : List Oper) (hg : o.guard = none)
      (h : ∀ (Q : Exit → Act → World → Prop) L a w K, I L a w → (∀ e ∈ o.after, Region.binds .any e = true → L.getD e.on false = true) → L.getD k true = false → Hid (∀ a' w', I (L.setIfInBounds k true) a' w' → K a' w') → o.wp P a w K Q)
      (t : Steps1 P I (k + 1) os) : Steps1 P I k (o :: os)
theorem Steps1.at_ {I : Array Bool → Act → World → Prop} : ∀ {k : Nat} {os : List Oper}, Steps1 P I k os → ∀ i o, os[i]? = some o → o.guard = none ∧
    ∀ (Q : Exit → Act → World → Prop) L a w K, I L a w → (∀ e ∈ o.after, Region.binds .any e = true → L.getD e.on false = true) → L.getD (k + i) true = false → Hid (∀ a' w', I (L.setIfInBounds (k + i) true) a' w' → K a' w') → o.wp P a w K Q := by
  intro k os h
  induction h with
  | nil k => intro i o h; simp at h
  | cons k o os hg h t ih =>
    intro i o' ho
    cases i with
    | zero => simp at ho; subst ho; exact ⟨hg, h⟩
    | succ i =>
      have := ih i o' (by simpa using ho)
      rw [show k + 1 + i = k + (i + 1) by omega] at this
      exact this
theorem wpAny_inv {I : Array Bool → Act → World → Prop} (hac : acyc ops = true) (hsz : ∀ L a w, I L a w → L.size = ops.size) (hst : Steps1 P I 0 ops.toList)
    (hdone : ∀ L a w, I L a w → (∀ i, i < ops.size → L.getD i false = true) → Q .normal a w) :
    ∀ (fuel : Nat) (L : Array Bool) (a : Act) (w : World), I L a w → unl L ≤ fuel → wpAny P .any ops Q fuel L a w
  | 0, L, a, w, hI, hu => by
    have h0 : ∀ i, i < ops.size → L.getD i false = true := by
      intro i hi
      have hli : i < L.size := by rw [hsz L a w hI]; exact hi
      have h1 : L.toList.count false = 0 := by unfold unl at hu; omega
      cases hv : L.getD i false with
      | true => rfl
      | false =>
        exfalso
        simp [hli] at hv
        exact List.count_eq_zero.1 h1 (by rw [← hv]; simp)
    refine ⟨?_, hdone L a w hI h0⟩
    unfold Region.ready
    rw [List.filter_eq_nil_iff]
    intro i hi
    have hi' := List.mem_range.1 hi
    have hli : i < L.size := by rw [hsz L a w hI]; exact hi'
    have := h0 i hi'
    simp [hli] at this
    simp [hli, this]
  | fuel + 1, L, a, w, hI, hu => by
    refine ⟨fun hr => hdone L a w hI (all_of_ready hac (hsz L a w hI) hr), fun i hi => ?_⟩
    have hm := hi
    unfold Region.ready at hm
    rw [List.mem_filter] at hm
    obtain ⟨hr, hc⟩ := hm
    have hil := List.mem_range.1 hr
    have ho : ops[i]? = some ops[i] := Array.getElem?_eq_getElem hil
    rw [ho] at hc
    simp only [Bool.and_eq_true, Bool.not_eq_true', Option.map_some, Option.getD_some, Array.all_eq_true_iff_forall_mem] at hc
    obtain ⟨hg, hw⟩ := hst.at_ i ops[i] (by rw [Array.getElem?_toList]; exact ho)
    have hk := hw Q L a w (wpAny P .any ops Q fuel (L.setIfInBounds i true)) hI (fun e he hb => by
      have := hc.2 e he
      rw [hb] at this
      simpa using this) (by simpa using hc.1) (Lib.hid fun a' w' h' => by
      rw [Nat.zero_add] at h'
      exact wpAny_inv hac hsz hst hdone fuel _ a' w' h' (by have := unl_set (L := L) (i := i) hc.1; omega))
    unfold wpOp
    rw [ho]
    simp only [Region.wanted, hg, if_true]
    exact Or.inl hk
theorem wp_region_inv {id : Nat} {a : Act} {w : World} (I : Array Bool → Act → World → Prop) (hm : P.follows .mixedOrders = true) (hac : acyc ops = true)
    (hsz : ∀ L a w, I L a w → L.size = ops.size) (h0 : I (Array.replicate ops.size false) a w.drew) (hst : Steps1 P I 0 ops.toList)
    (hdone : ∀ L a w, I L a w → (∀ i, i < ops.size → L.getD i false = true) → Q .normal a w) : (Code.region id ops true).wp P Q a w :=
  wp_region_any hm (wpAny_inv hac hsz hst hdone _ _ a _ h0 (by simp [unl]))
/-- The same, where what holds is told from the frame at the beginning. -/
theorem wp_region_from {id : Nat} {a : Act} {w : World} (I : Act → Array Bool → Act → World → Prop) (hm : P.follows .mixedOrders = true) (hac : acyc ops = true)
    (hsz : ∀ L b w, I a L b w → L.size = ops.size) (h0 : I a (Array.replicate ops.size false) a w.drew) (hst : Steps1 P (I a) 0 ops.toList)
    (hdone : ∀ L b w, I a L b w → (∀ i, i < ops.size → L.getD i false = true) → Q .normal b w) : (Code.region id ops true).wp P Q a w :=
  wp_region_inv (I a) hm hac hsz h0 hst hdone
end
end Go.Proofs.YtejeppjmlgfiaaaGreat

/- Tables in the making in a draw: what the bends of a drawn table leave. Plain definitions and lemmas; no condition but those that each names. -/
namespace Go.Proofs.YtejeppjmlgfiaaaGreat
open Go.RowKit
set_option linter.unusedVariables false
set_option maxHeartbeats 4000000
section
variable {w : World} {g n : Nat} {cd : Value}
/-- A circuit and tables are drawn, in new memory. -/
def DrewH (w : World) (g : Nat) (cd : Value) (n : Nat) (e : Ending) (w' : World) : Prop := ∃ (c : Cir) (gv ov : Value) (G : Gb) (rv nv cv : Value) (vs : List Value), e = .returned (.tuple #[cirV c gv ov, gbV rv nv cv]) ∧ AnC c ∧ G.sz ≤ 3000 ∧ OwnG w' w.heap.size gv c.gs ∧ OwnI w' w.heap.size ov c.outs ∧ OwnGb w' w.heap.size rv nv cv vs G ∧ Cur w' g cd n ∧ w.grownBy w' (some g)
/-- What the circuit needs lies in front of block N. -/
structure Lw (W : World) (N x : Nat) (gv ov : Value) : Prop where
  lo : W.heap.size ≤ N
  nx : x < N
  ngv : ∀ b, gv.ownBlock = some b → b < N
  nov : ∀ b, ov.ownBlock = some b → b < N
theorem own_hi {N B E sz k : Nat} {v : Value} {xs : List Value} {w' : World} (h : w.ownsRow B E sz v k xs) (hb : Below N w w') (hv : ∀ b, v.ownBlock = some b → b < N) : w'.ownsRow B E sz v k xs := by
  refine ⟨h.1, ?_⟩
  rcases h.2 with h2 | ⟨g, cap, cur, rfl, hB, hh, r⟩
  · exact .inl h2
  · exact .inr ⟨g, cap, cur, rfl, hB, (hb.block g (hv g rfl)).trans hh, r⟩
section
variable {W wr w' : World} {m rb r2 x y N : Nat} {t2 : TypeId} {c : Cir} {gv ov : Value}
theorem Hv.lw (h : Hv W g cd n rb r2 x t2 c gv ov wr) : Lw W wr.heap.size x gv ov := ⟨h.grown.size, h.box.lt, fun b hb => own_lt h.gates b hb, fun b hb => h.outs.lt b hb⟩
theorem Hv.hi (h : Hv W g cd n rb r2 x t2 c gv ov wr) (h0 : CodeIn W cd g) (l : Lw W N x gv ov) (hb : Below N wr w') : Hv W g cd n rb r2 x t2 c gv ov w' := by
  obtain ⟨h1, h2, h3, h4⟩ := h.lt
  have hl := l.lo
  obtain ⟨hc, hg⟩ := Cur.low h0 h.cur h.grown (hb.mono l.lo) h1
  exact ⟨own_hi h.gates hb l.ngv, own_hi h.outs hb l.nov, h.box.below hb l.nx, h.res.below hb (by omega), h.res2.below hb (by omega), hc, hg, h.lt⟩
theorem sz_row (G : Gb) (r : List Int) : Gb.sz ⟨G.rows ++ [r], G.ones, G.cols⟩ = G.sz + 1 + r.length := by
  unfold Gb.sz
  simp only [List.length_append, cntR_append, List.length_singleton]
  simp [cntR]; omega
theorem sz_one (G : Gb) (k : Int) : Gb.sz ⟨G.rows, G.ones ++ [k], G.cols⟩ = G.sz + 1 := by unfold Gb.sz; simp only [List.length_append, List.length_singleton]; omega
theorem sz_col (G : Gb) (i : Nat) (k : Int) : Gb.sz ⟨G.rows, G.ones, G.cols.set i k⟩ = G.sz := by unfold Gb.sz; simp only [List.length_set]
theorem sz_set (G : Gb) (r : List Int) : Gb.sz ⟨G.rows.set 0 r, G.ones, G.cols⟩ ≤ G.sz + r.length := by
  unfold Gb.sz
  simp only [List.length_set]
  rcases G.rows with _ | ⟨q, rs⟩
  · simp
  · simp [cntR]; omega
theorem Hv.in_ {wr' : World} (h : Hv W g cd n rb r2 x t2 c gv ov wr) (hN : W.heap.size ≤ N) : g < N := by have := h.lt; omega
/-- In the making. -/
def MkH (W : World) (g : Nat) (cd : Value) (n rb r2 x y N : Nat) (t2 : TypeId) (c : Cir) (gv ov : Value) (z : Nat) (wr : World) : Prop := ∃ (G : Gb) (rv nv cv : Value) (vs : List Value), G.sz ≤ z ∧ Tb N wr y t2 rv nv cv vs G ∧ Hv W g cd n rb r2 x t2 c gv ov wr
end
section
variable {W w3 w8 : World} {g n rb r2 x y N z zk : Nat} {cd : Value} {t2 : TypeId} {c : Cir} {gv ov rv nv cv v8 u : Value} {vs : List Value} {G : Gb} {r : List Int} {o : Obj}
/-- A row more. -/
theorem MkH.row (h0 : CodeIn W cd g) (l : Lw W N x gv ov) (ht : Tb N w3 y t2 rv nv cv vs G) (hv : Hv W g cd n rb r2 x t2 c gv ov w3) (hu : OwnI (w3.alloc o) w3.heap.size u r)
    (ho8 : w8.ownsRow N 24 1 v8 (G.rows.length + 1) (vs ++ [u])) (hg8 : (w3.alloc o).grownBy w8 rv.ownBlock) (hfr8 : ∀ g, v8.ownBlock = some g → rv.ownBlock = some g ∨ (w3.alloc o).heap.size ≤ g) (hz : G.sz + 1 + r.length ≤ zk) :
    w8.cell? ⟨y, 0, none⟩ = some rv ∧ w8.frozen? ⟨y, 0, none⟩ = false ∧ MkH W g cd n rb r2 x y N t2 c gv ov zk (w8.setCell ⟨y, 0, none⟩ v8) := by
  have hba : Below w3.heap.size w3 (w3.alloc o) := (Below.refl _ _).alloc (Nat.le_refl _) _
  have hta := ht.below hba
  have hk := hta.blk.grown hg8 (fun e => hta.far _ (by simp) e.symm)
  exact ⟨hk.cell 0, hk.free 0, _, _, _, _, _, by rw [sz_row]; exact hz, ht.row hba hu ho8 hg8 hfr8, hv.hi h0 l ((((Below.refl N w3).alloc ht.size _).grown hg8 (Nat.le_trans ht.size hba.size) (fun k hk => (hta.own.bd _ (by simp) k hk).1)).setCell (p := ⟨y, 0, none⟩) ht.lo v8)⟩
theorem MkH.one {k : Int} (h0 : CodeIn W cd g) (l : Lw W N x gv ov) (ht : Tb N w3 y t2 rv nv cv vs G) (hv : Hv W g cd n rb r2 x t2 c gv ov w3)
    (ho8 : w8.ownsRow N 3 1 v8 (G.ones.length + 1) (G.ones.map (Value.int .i64) ++ [.int .i64 k])) (hg8 : w3.grownBy w8 nv.ownBlock) (hfr8 : ∀ g, v8.ownBlock = some g → nv.ownBlock = some g ∨ w3.heap.size ≤ g) (hz : G.sz + 1 ≤ zk) :
    w8.cell? ⟨y, 1, none⟩ = some nv ∧ w8.frozen? ⟨y, 1, none⟩ = false ∧ MkH W g cd n rb r2 x y N t2 c gv ov zk (w8.setCell ⟨y, 1, none⟩ v8) := by
  have hk := ht.blk.grown hg8 (fun e => ht.far _ (by simp) e.symm)
  exact ⟨hk.cell 1, hk.free 1, _, _, _, _, _, by rw [sz_one]; exact hz, ht.one (Below.refl _ _) (OwnI.snoc ho8) hg8 hfr8, hv.hi h0 l (((Below.refl N w3).grown hg8 ht.size (fun k hk => (ht.own.bd _ (by simp) k hk).1)).setCell (p := ⟨y, 1, none⟩) ht.lo v8)⟩
theorem set_drew (w : World) (p : Addr) (u : Value) : w.drew.setCell p u = (w.setCell p u).drew := rfl
/-- What the last stores read stays. -/
theorem Hv.keep7 (h : Hv W g cd n rb r2 x t2 c gv ov w3) (ht : Tb N w3 y t2 rv nv cv vs G) (hl : W.heap.size ≤ N) : w3.cell? ⟨x, 0, none⟩ = some (.int .i64 c.i0) ∧ w3.cell? ⟨x, 1, none⟩ = some (.int .i64 c.i1) ∧ w3.cell? ⟨x, 2, none⟩ = some gv ∧ w3.cell? ⟨x, 3, none⟩ = some ov ∧ w3.cell? ⟨y, 0, none⟩ = some rv ∧ w3.cell? ⟨y, 1, none⟩ = some nv ∧ w3.cell? ⟨y, 2, none⟩ = some cv :=
  ⟨h.box.cell 0, h.box.cell 1, h.box.cell 2, h.box.cell 3, ht.blk.cell 0, ht.blk.cell 1, ht.blk.cell 2⟩
theorem Hv.keep7a (h : Hv W g cd n rb r2 x t2 c gv ov w3) (ht : Tb N w3 y t2 rv nv cv vs G) (hl : W.heap.size ≤ N) : let w9 := (((w3.setCell ⟨rb, 0, none⟩ (.int .i64 c.i0)).setCell ⟨rb, 1, none⟩ (.int .i64 c.i1)).setCell ⟨rb, 2, none⟩ gv).setCell ⟨rb, 3, none⟩ ov
    w9.cell? ⟨x, 0, none⟩ = some (.int .i64 c.i0) ∧ w9.cell? ⟨x, 1, none⟩ = some (.int .i64 c.i1) ∧ w9.cell? ⟨x, 2, none⟩ = some gv ∧ w9.cell? ⟨x, 3, none⟩ = some ov ∧ w9.cell? ⟨y, 0, none⟩ = some rv ∧ w9.cell? ⟨y, 1, none⟩ = some nv ∧ w9.cell? ⟨y, 2, none⟩ = some cv := by
  intro w9
  have h1 := h.lt
  have h2 := ht.lo
  have hx : x ≠ rb := by omega
  have hy : y ≠ rb := by omega
  have bx := (((h.box.far (p := ⟨rb, 0, none⟩) hx (.int .i64 c.i0)).far (p := ⟨rb, 1, none⟩) hx (.int .i64 c.i1)).far (p := ⟨rb, 2, none⟩) hx gv).far (p := ⟨rb, 3, none⟩) hx ov
  have by_ := (((ht.blk.far (p := ⟨rb, 0, none⟩) hy (.int .i64 c.i0)).far (p := ⟨rb, 1, none⟩) hy (.int .i64 c.i1)).far (p := ⟨rb, 2, none⟩) hy gv).far (p := ⟨rb, 3, none⟩) hy ov
  exact ⟨bx.cell 0, bx.cell 1, bx.cell 2, bx.cell 3, by_.cell 0, by_.cell 1, by_.cell 2⟩
theorem Hv.keep7b (h : Hv W g cd n rb r2 x t2 c gv ov w3) (ht : Tb N w3 y t2 rv nv cv vs G) (hl : W.heap.size ≤ N) : let w9 := ((((((w3.setCell ⟨rb, 0, none⟩ (.int .i64 c.i0)).setCell ⟨rb, 1, none⟩ (.int .i64 c.i1)).setCell ⟨rb, 2, none⟩ gv).setCell ⟨rb, 3, none⟩ ov).setCell ⟨r2, 0, none⟩ rv).setCell ⟨r2, 1, none⟩ nv).setCell ⟨r2, 2, none⟩ cv
    w9.cell? ⟨x, 0, none⟩ = some (.int .i64 c.i0) ∧ w9.cell? ⟨x, 1, none⟩ = some (.int .i64 c.i1) ∧ w9.cell? ⟨x, 2, none⟩ = some gv ∧ w9.cell? ⟨x, 3, none⟩ = some ov ∧ w9.cell? ⟨y, 0, none⟩ = some rv ∧ w9.cell? ⟨y, 1, none⟩ = some nv ∧ w9.cell? ⟨y, 2, none⟩ = some cv := by
  intro w9
  have h1 := h.lt
  have h2 := ht.lo
  have hx : x ≠ rb := by omega
  have hy : y ≠ rb := by omega
  have hx2 : x ≠ r2 := by omega
  have hy2 : y ≠ r2 := by omega
  have bx := ((((((h.box.far (p := ⟨rb, 0, none⟩) hx (.int .i64 c.i0)).far (p := ⟨rb, 1, none⟩) hx (.int .i64 c.i1)).far (p := ⟨rb, 2, none⟩) hx gv).far (p := ⟨rb, 3, none⟩) hx ov).far (p := ⟨r2, 0, none⟩) hx2 rv).far (p := ⟨r2, 1, none⟩) hx2 nv).far (p := ⟨r2, 2, none⟩) hx2 cv
  have by_ := ((((((ht.blk.far (p := ⟨rb, 0, none⟩) hy (.int .i64 c.i0)).far (p := ⟨rb, 1, none⟩) hy (.int .i64 c.i1)).far (p := ⟨rb, 2, none⟩) hy gv).far (p := ⟨rb, 3, none⟩) hy ov).far (p := ⟨r2, 0, none⟩) hy2 rv).far (p := ⟨r2, 1, none⟩) hy2 nv).far (p := ⟨r2, 2, none⟩) hy2 cv
  exact ⟨bx.cell 0, bx.cell 1, bx.cell 2, bx.cell 3, by_.cell 0, by_.cell 1, by_.cell 2⟩
theorem MkH.more {m : Nat} (h : MkH W g cd n rb r2 x y N t2 c gv ov zk w3) (hm : n ≤ m) : MkH W g cd m rb r2 x y N t2 c gv ov zk w3 := by
  obtain ⟨G, rv, nv, cv, vs, h1, h2, h3⟩ := h
  exact ⟨G, rv, nv, cv, vs, h1, h2, h3.more hm⟩
end
theorem far_of {w' : World} {B y : Nat} {rv nv cv : Value} {vs : List Value} {G : Gb} (hz : OwnGb w' B rv nv cv vs G) (hy : y < B) : ∀ u ∈ nv :: cv :: rv :: vs, u.ownBlock ≠ some y := fun u hu e => by have := (hz.bd u hu _ e).1; omega
theorem far_new {w' : World} {B : Nat} {rv nv cv : Value} {vs : List Value} {G : Gb} (hz : OwnGb w' B rv nv cv vs G) : ∀ u ∈ nv :: cv :: rv :: vs, u.ownBlock ≠ some w'.heap.size := fun u hu e => by have := (hz.bd u hu _ e).2; omega

/-! ### a row in the place of the first -/
theorem lcon {L : Array Bool} {k : Nat} (h : L.getD k false = true) (h2 : L.getD k true = false) : False := by
  rcases Nat.lt_or_ge k L.size with hk | hk
  · simp [hk] at h h2; rw [h] at h2; cases h2
  · simp [Nat.not_lt.2 hk] at h
theorem lk {L : Array Bool} {k j : Nat} {A B : Prop} (hne : k ≠ j) (h : L.getD j false = true → A) (f : A → B) : (L.setIfInBounds k true).getD j false = true → B := fun e => f (h (by
  rw [← e]
  simp only [Array.getD_eq_getD_getElem?, Array.getElem?_setIfInBounds_ne hne]))
theorem lset {L : Array Bool} {k : Nat} (h : L.getD k true = false) : (L.setIfInBounds k true).getD k false = true := by
  rcases Nat.lt_or_ge k L.size with hk | hk
  · simp [hk]
  · simp [Nat.not_lt.2 hk] at h
theorem lall {L : Array Bool} {k : Nat} (h : ∀ i, i < k → L.getD i false = true) (h2 : L.getD k true = false) : ∀ i, i < k + 1 → (L.setIfInBounds k true).getD i false = true := fun i hi => by
  by_cases e : i = k
  · subst e; exact lset h2
  · have := h i (by omega)
    rw [← this]
    simp only [Array.getD_eq_getD_getElem?, Array.getElem?_setIfInBounds_ne (fun e9 => e e9.symm)]
/-- A short row of the draw's own, apart from the tables. -/
def RowOk (N y : Nat) (us : List Value) (w : World) (s : Value) : Prop := ∃ (l : List Int) (A : Option Addr) (k : Nat), s = .slice A l.length k ∧ l.length ≤ 2 ∧ OwnI w N s l ∧ (∀ z ∈ us, Apt s z) ∧ s.ownBlock ≠ some y
def Lit4 (N y : Nat) (us : List Value) (w : World) (s : Value) : Prop := ∃ b p0 p1 p2 p3, s = .slice (some ⟨b, 0, none⟩) 4 4 ∧ N ≤ b ∧ Blk w b 24 #[p0, p1, p2, p3] ∧ RowOk N y us w p0 ∧ RowOk N y us w p1 ∧ RowOk N y us w p2 ∧ RowOk N y us w p3
def PtrOk (N y : Nat) (us : List Value) (w : World) (s : Value) : Prop := ∃ b k p, s = .pointer (some ⟨b, k, none⟩) ∧ N ≤ b ∧ b < w.heap.size ∧ w.cell? ⟨b, k, none⟩ = some p ∧ RowOk N y us w p
section
variable {N y : Nat} {us : List Value} {w' : World} {s : Value}
theorem RowOk.form (h : RowOk N y us w s) : ∃ (l : List Int) (A : Option Addr) (k : Nat), s = .slice A l.length k := by
  obtain ⟨l, A, k, h1, -⟩ := h
  exact ⟨l, A, k, h1⟩
theorem RowOk.below (h : RowOk N y us w s) (hb : Below w.heap.size w w') : RowOk N y us w' s := by
  obtain ⟨l, A, k, h1, h2, h3, h4, h5⟩ := h
  exact ⟨l, A, k, h1, h2, h3.below hb, h4, h5⟩
theorem RowOk.draw (h : RowOk N y us w s) (hg : w.grownBy w' (some g)) (hN : g < N) : RowOk N y us w' s := by
  obtain ⟨l, A, k, h1, h2, h3, h4, h5⟩ := h
  exact ⟨l, A, k, h1, h2, h3.grown hg (fun b hb e => by injection e with e; have := h3.ge b hb; omega), h4, h5⟩
theorem Lit4.below (h : Lit4 N y us w s) (hb : Below w.heap.size w w') : Lit4 N y us w' s := by
  obtain ⟨b, p0, p1, p2, p3, h1, h2, h3, h4, h5, h6, h7⟩ := h
  exact ⟨b, p0, p1, p2, p3, h1, h2, h3.step hb, h4.below hb, h5.below hb, h6.below hb, h7.below hb⟩
theorem Lit4.draw (h : Lit4 N y us w s) (hg : w.grownBy w' (some g)) (hN : g < N) : Lit4 N y us w' s := by
  obtain ⟨b, p0, p1, p2, p3, h1, h2, h3, h4, h5, h6, h7⟩ := h
  exact ⟨b, p0, p1, p2, p3, h1, h2, h3.grown hg (by simp; omega), h4.draw hg hN, h5.draw hg hN, h6.draw hg hN, h7.draw hg hN⟩
theorem PtrOk.below (h : PtrOk N y us w s) (hb : Below w.heap.size w w') : PtrOk N y us w' s := by
  obtain ⟨b, k, p, h1, h2, h3, h4, h5⟩ := h
  exact ⟨b, k, p, h1, h2, Nat.lt_of_lt_of_le h3 hb.size, (hb.cell (p := ⟨b, k, none⟩) h3).trans h4, h5.below hb⟩
theorem PtrOk.draw (h : PtrOk N y us w s) (hg : w.grownBy w' (some g)) (hN : g < N) : PtrOk N y us w' s := by
  obtain ⟨b, k, p, h1, h2, h3, h4, h5⟩ := h
  refine ⟨b, k, p, h1, h2, Nat.lt_of_lt_of_le h3 hg.size, ?_, h5.draw hg hN⟩
  have hb : w'.heap[b]? = w.heap[b]? := hg.block b h3 (by simp; omega)
  unfold World.cell? at h4 ⊢
  simp only [hb]
  exact h4
theorem RowOk.lit {t : TypeId} {rv nv cv : Value} {vs : List Value} {G : Gb} (h : Tb N w y t rv nv cv vs G) (l : List Int) (cs : Array Value) (k : Nat) (hcs : cs.toList = l.map (Value.int .i64)) (hk : l.length = k) (hl : k ≤ 2) :
    RowOk N y (nv :: cv :: rv :: vs) (w.alloc (.cells cs 3)) (.slice (some ⟨w.heap.size, 0, none⟩) k k) := by
  subst hk
  have h1 := OwnI.lit (w := w) (B := N) l cs hcs h.size (by omega)
  refine ⟨l, _, _, rfl, hl, h1, fun z hz b hb e => ?_, fun e => ?_⟩
  · simp [Value.ownBlock] at hb; subst hb
    have := (h.own.bd z hz _ e).2; omega
  · have h9 := h.blk.lt
    have e9 : w.heap.size = y := by injection e
    omega
theorem Lit4.new {p0 p1 p2 p3 : Value} (hN : N ≤ w.heap.size) (h0 : RowOk N y us w p0) (h1 : RowOk N y us w p1) (h2 : RowOk N y us w p2) (h3 : RowOk N y us w p3) :
    Lit4 N y us (w.alloc (.cells #[p0, p1, p2, p3] 24)) (.slice (some ⟨w.heap.size, 0, none⟩) 4 4) := by
  have hb : Below w.heap.size w (w.alloc (.cells #[p0, p1, p2, p3] 24)) := (Below.refl _ _).alloc (Nat.le_refl _) _
  exact ⟨_, p0, p1, p2, p3, rfl, hN, Blk.new _ _ _, h0.below hb, h1.below hb, h2.below hb, h3.below hb⟩
theorem Lit4.at_ {b : Nat} {r : Int} {p0 p1 p2 p3 : Value} (hN : N ≤ b) (hb : Blk w b 24 #[p0, p1, p2, p3]) (h0 : RowOk N y us w p0) (h1 : RowOk N y us w p1) (h2 : RowOk N y us w p2) (h3 : RowOk N y us w p3) (hr0 : 0 ≤ r) (hr1 : r < 4) :
    PtrOk N y us w (.pointer (some ⟨b, r.toNat, none⟩)) := by
  have hr : r = 0 ∨ r = 1 ∨ r = 2 ∨ r = 3 := by omega
  rcases hr with rfl | rfl | rfl | rfl
  · exact ⟨b, 0, p0, rfl, hN, hb.lt, hb.cell 0, h0⟩
  · exact ⟨b, 1, p1, rfl, hN, hb.lt, hb.cell 1, h1⟩
  · exact ⟨b, 2, p2, rfl, hN, hb.lt, hb.cell 2, h2⟩
  · exact ⟨b, 3, p3, rfl, hN, hb.lt, hb.cell 3, h3⟩
end
def up12 (a : Act) (s47 s48 s49 s50 s51 s52 s53 s54 s55 s56 s57 s58 : Value) : Act :=
  (((((((((((a.put (some 47) s47).put (some 48) s48).put (some 49) s49).put (some 50) s50).put (some 51) s51).put (some 52) s52).put (some 53) s53).put (some 54) s54).put (some 55) s55).put (some 56) s56).put (some 57) s57).put (some 58) s58
theorem put_self (a : Act) (d : Nat) : a.put (some d) (a.tmps.getD d undef) = a := by
  unfold Act.put
  simp only
  congr 1
  apply Array.ext
  · simp
  · intro i h1 h2
    rw [Array.getElem_setIfInBounds]
    split
    · rename_i e; subst e; simp at h1; simp [h1]
    · rfl
theorem up12_self (a : Act) : up12 a (a.tmps.getD 47 undef) (a.tmps.getD 48 undef) (a.tmps.getD 49 undef) (a.tmps.getD 50 undef) (a.tmps.getD 51 undef) (a.tmps.getD 52 undef) (a.tmps.getD 53 undef) (a.tmps.getD 54 undef) (a.tmps.getD 55 undef) (a.tmps.getD 56 undef) (a.tmps.getD 57 undef) (a.tmps.getD 58 undef) = a := by
  unfold up12
  simp only [put_self]
/-- What holds in the region that puts a row in the place of the first. -/
def I12 (W : World) (N y g rb r2 x m : Nat) (cd : Value) (t2 : TypeId) (c : Cir) (gv ov nv cv : Value) (vs : List Value) (G : Gb) (bv kv : Nat) (z : Nat) (a0 : Act) (L : Array Bool) (a : Act) (w : World) : Prop :=
  let rv : Value := .slice (some ⟨bv, 0, none⟩) G.rows.length kv
  L.size = 13 ∧ ∃ s47 s48 s49 s50 s51 s52 s53 s54 s55 s56 s57 s58, a = up12 a0 s47 s48 s49 s50 s51 s52 s53 s54 s55 s56 s57 s58 ∧
    (((∀ i, i < 13 → L.getD i false = true) ∧ MkH W g cd (m + 2 * usd L) rb r2 x y N t2 c gv ov z w) ∨
     (Tb N w y t2 rv nv cv vs G ∧ Hv W g cd (m + 2 * usd L) rb r2 x t2 c gv ov w ∧
      (L.getD 0 false = true → s47 = .pointer (some ⟨y, 0, none⟩)) ∧ (L.getD 1 false = true → s48 = rv) ∧
      (L.getD 2 false = true → RowOk N y (nv :: cv :: rv :: vs) w s49) ∧ (L.getD 3 false = true → RowOk N y (nv :: cv :: rv :: vs) w s50) ∧ (L.getD 4 false = true → RowOk N y (nv :: cv :: rv :: vs) w s51) ∧ (L.getD 5 false = true → RowOk N y (nv :: cv :: rv :: vs) w s52) ∧
      (L.getD 6 false = true → Lit4 N y (nv :: cv :: rv :: vs) w s53) ∧ (L.getD 7 false = true → s54 = .pointer (some ⟨g, 0, none⟩)) ∧ (L.getD 8 false = true → ∃ r : Int, s55 = .int .i64 r ∧ 0 ≤ r ∧ r < 4) ∧
      (L.getD 9 false = true → PtrOk N y (nv :: cv :: rv :: vs) w s56) ∧ (L.getD 10 false = true → RowOk N y (nv :: cv :: rv :: vs) w s57) ∧ (L.getD 11 false = true → s58 = .pointer (some ⟨bv, 0, none⟩)) ∧ (L.getD 12 false = true → False)))
end
end Go.Proofs.YtejeppjmlgfiaaaGreat

/- Contracts of the draws for runs and tables of circuits. Condition: the bytes read as bytes. -/
namespace Go.Proofs.YtejeppjmlgfiaaaGreat
open Go.RowKit
set_option linter.unusedVariables false
set_option maxHeartbeats 4000000
section
variable {W w wr w' : World} {g n m rb x : Nat} {cd : Value} {c : Cir} {gv ov u v : Value} {a b : List Int}
theorem Pk.c_among {l : List Int} {lv : Value} (h : Pk W g cd n rb x c gv ov u v a b wr) (hn : n ≤ 1000000000) (hl : Ints wr lv l) (hl0 : 0 < l.length) (hl1 : l.length ≤ 1000) (hne : ∀ b, lv.ownBlock = some b → b ≠ g) :
    Calls Tryz.prog 54 #[.pointer (some ⟨g, 0, none⟩), lv] wr fun e w' => ∃ r : Int, e = .returned (.int .i64 r) ∧ Pk W g cd (n + 2) rb x c gv ov u v a b w' :=
  (Go.Proofs.YtejeppjmlgfiaaaGreat.c_among h.cur (by omega) hl hl0 hl1 hne).mono fun e w' ⟨v, e1, ⟨r, e2, _⟩, hc, hg⟩ => ⟨r, by rw [e1, e2], h.draw hg hc⟩
/-- A circuit is drawn; the box of the result is empty yet. -/
structure Ck (W : World) (g : Nat) (cd : Value) (n rb : Nat) (c : Cir) (gv ov : Value) (wr : World) : Prop where
  gates : OwnG wr W.heap.size gv c.gs
  outs : OwnI wr W.heap.size ov c.outs
  res : Blk wr rb 26 #[.int .i64 0, .int .i64 0, .slice none 0 0, .slice none 0 0]
  cur : Cur wr g cd n
  grown : W.grownBy wr (some g)
  lt : g < W.heap.size ∧ rb < W.heap.size ∧ rb ≠ g
theorem Ck.draw (h : Ck W g cd n rb c gv ov wr) (hg : wr.grownBy w' (some g)) (hc : Cur w' g cd m) : Ck W g cd m rb c gv ov w' := by
  obtain ⟨h1, h2, h3⟩ := h.lt
  exact ⟨own_grown h.gates hg (fun b hb e => by have := own_ge h.gates b hb; injection e with e; omega), own_app h.outs h1 hg, h.res.grown hg (by simp; omega), hc, only_trans h.grown hg, h.lt⟩
theorem Ck.below (h : Ck W g cd n rb c gv ov wr) (hb : Below wr.heap.size wr w') : Ck W g cd n rb c gv ov w' :=
  ⟨h.gates.below hb, h.outs.below hb, h.res.step hb, h.cur.below hb, only_trans h.grown (only_below hb _), h.lt⟩
theorem Ck.drew (h : Ck W g cd n rb c gv ov wr) : Ck W g cd n rb c gv ov wr.drew := h.below (Below.refl _ _).drew
theorem Ck.alloc (h : Ck W g cd n rb c gv ov wr) (o : Obj) : Ck W g cd n rb c gv ov (wr.alloc o) := h.below ((Below.refl _ _).alloc (Nat.le_refl _) o)
theorem Ck.start (hW : Cur W g cd m) (hres : Blk W rb 26 #[.int .i64 0, .int .i64 0, .slice none 0 0, .slice none 0 0]) (hlt : g < W.heap.size ∧ rb < W.heap.size ∧ rb ≠ g) (h1 : OwnG wr W.heap.size gv c.gs) (h2 : OwnI wr W.heap.size ov c.outs) (hc : Cur wr g cd n) (hg : W.grownBy wr (some g)) :
    Ck W g cd n rb c gv ov wr := ⟨h1, h2, hres.grown hg (by simp; omega), hc, hg, hlt⟩
theorem Ck.resf (h : Ck W g cd n rb c gv ov wr) : wr.cell? ⟨rb, 0, none⟩ = some (.int .i64 0) ∧ wr.cell? ⟨rb, 1, none⟩ = some (.int .i64 0) ∧ wr.cell? ⟨rb, 2, none⟩ = some (.slice none 0 0) ∧ wr.cell? ⟨rb, 3, none⟩ = some (.slice none 0 0) ∧
    wr.frozen? ⟨rb, 0, none⟩ = false ∧ wr.frozen? ⟨rb, 1, none⟩ = false ∧ wr.frozen? ⟨rb, 2, none⟩ = false ∧ wr.frozen? ⟨rb, 3, none⟩ = false := ⟨h.res.cell 0, h.res.cell 1, h.res.cell 2, h.res.cell 3, h.res.free 0, h.res.free 1, h.res.free 2, h.res.free 3⟩
/-- The circuit goes into the box of the result. -/
theorem Ck.done (h : Ck W g cd n rb c gv ov wr) (hW : Below w.heap.size w W) (h1 : w.heap.size ≤ rb) (h2 : w.heap.size ≤ g) (hs : w.heap.size ≤ W.heap.size) :
    let w9 := (((wr.setCell ⟨rb, 0, none⟩ (.int .i64 c.i0)).setCell ⟨rb, 1, none⟩ (.int .i64 c.i1)).setCell ⟨rb, 2, none⟩ gv).setCell ⟨rb, 3, none⟩ ov
    (OwnG w9 w.heap.size gv c.gs ∧ OwnI w9 w.heap.size ov c.outs) ∧ Below w.heap.size w w9 ∧ w9.cell? ⟨rb, 0, none⟩ = some (.int .i64 c.i0) ∧ w9.cell? ⟨rb, 1, none⟩ = some (.int .i64 c.i1) ∧ w9.cell? ⟨rb, 2, none⟩ = some gv ∧ w9.cell? ⟨rb, 3, none⟩ = some ov := by
  intro w9
  obtain ⟨l1, l2, l3⟩ := h.lt
  have key : ∀ {E sz k : Nat} {y : Value} {xs : List Value}, wr.ownsRow W.heap.size E sz y k xs → w9.ownsRow W.heap.size E sz y k xs := fun {E sz k y xs} h9 => by
    have hne : ∀ b, y.ownBlock = some b → b ≠ rb := fun b hb => by have := own_ge h9 b hb; omega
    exact own_set (p := ⟨rb, 3, none⟩) (own_set (p := ⟨rb, 2, none⟩) (own_set (p := ⟨rb, 1, none⟩) (own_set (p := ⟨rb, 0, none⟩) h9 hne _) hne _) hne _) hne _
  refine ⟨⟨own_mono (show OwnG w9 W.heap.size gv c.gs from key h.gates) hs, (show OwnI w9 W.heap.size ov c.outs from key h.outs).mono hs⟩, ?_, ?_⟩
  · have hb : Below w.heap.size w wr := hW.grown h.grown hs (fun k hk => by injection hk with hk; omega)
    exact (((hb.setCell (p := ⟨rb, 0, none⟩) h1 _).setCell (p := ⟨rb, 1, none⟩) h1 _).setCell (p := ⟨rb, 2, none⟩) h1 _).setCell (p := ⟨rb, 3, none⟩) h1 _
  · have hf := (((h.res.set_ 0 (.int .i64 c.i0)).set_ 1 (.int .i64 c.i1)).set_ 2 gv).set_ 3 ov
    exact ⟨hf.cell 0, hf.cell 1, hf.cell 2, hf.cell 3⟩
theorem Ck.c_pick {k : Int} (h : Ck W g cd n rb c gv ov wr) (hn : n ≤ 1000000000) (hm : k ≤ 9223372036854775807) :
    Calls Tryz.prog 55 #[.pointer (some ⟨g, 0, none⟩), .int .i64 k] wr fun e w' => ∃ r : Int, e = .returned (.int .i64 r) ∧ 0 ≤ r ∧ (r < k ∨ k ≤ 0) ∧ Ck W g cd (n + 2) rb c gv ov w' :=
  (Go.Proofs.YtejeppjmlgfiaaaGreat.c_pick h.cur (by omega) hm).mono fun e w' ⟨v, e1, ⟨r, e2, h0, _, h1⟩, hc, hg⟩ => ⟨r, by rw [e1, e2], h0, h1, h.draw hg hc⟩
theorem Ck.c_among {l : List Int} {lv : Value} (h : Ck W g cd n rb c gv ov wr) (hn : n ≤ 1000000000) (hl : Ints wr lv l) (hl0 : 0 < l.length) (hl1 : l.length ≤ 1000) (hne : ∀ b, lv.ownBlock = some b → b ≠ g) :
    Calls Tryz.prog 54 #[.pointer (some ⟨g, 0, none⟩), lv] wr fun e w' => ∃ r : Int, e = .returned (.int .i64 r) ∧ Ck W g cd (n + 2) rb c gv ov w' :=
  (Go.Proofs.YtejeppjmlgfiaaaGreat.c_among h.cur (by omega) hl hl0 hl1 hne).mono fun e w' ⟨v, e1, ⟨r, e2, _⟩, hc, hg⟩ => ⟨r, by rw [e1, e2], h.draw hg hc⟩
theorem Ck.c_secret (h : Ck W g cd n rb c gv ov wr) (hn : n ≤ 1000000000) :
    Calls Tryz.prog 89 #[.pointer (some ⟨g, 0, none⟩)] wr fun e w' => ∃ r : Int, e = .returned (.int .i64 r) ∧ Ck W g cd (n + 4) rb c gv ov w' :=
  (Go.Proofs.YtejeppjmlgfiaaaGreat.c_secret h.cur (by omega)).mono fun e w' ⟨v, e1, ⟨r, e2, _, _⟩, hc, hg⟩ => ⟨r, by rw [e1, e2], h.draw hg hc⟩
theorem Ck.c_offset (h : Ck W g cd n rb c gv ov wr) (hn : n ≤ 100000000) :
    Calls Tryz.prog 111 #[.pointer (some ⟨g, 0, none⟩)] wr fun e w' => ∃ r : Int, e = .returned (.int .i64 r) ∧ Ck W g cd (n + 8) rb c gv ov w' :=
  (Go.Proofs.YtejeppjmlgfiaaaGreat.c_offset h.cur (by omega)).mono fun e w' ⟨v, e1, ⟨r, e2, _, _⟩, hc, hg⟩ => ⟨r, by rw [e1, e2], h.draw hg hc⟩
end
theorem own_set4 {w1 : World} {B E sz k rb : Nat} {y : Value} {xs : List Value} (h : w1.ownsRow B E sz y k xs) (hB : rb < B) (y0 y1 y2 y3 : Value) :
    ((((w1.setCell ⟨rb, 0, none⟩ y0).setCell ⟨rb, 1, none⟩ y1).setCell ⟨rb, 2, none⟩ y2).setCell ⟨rb, 3, none⟩ y3).ownsRow B E sz y k xs := by
  have hne : ∀ b, y.ownBlock = some b → b ≠ rb := fun b hb => by have := own_ge h b hb; omega
  exact own_set (p := ⟨rb, 3, none⟩) (own_set (p := ⟨rb, 2, none⟩) (own_set (p := ⟨rb, 1, none⟩) (own_set (p := ⟨rb, 0, none⟩) h hne _) hne _) hne _) hne _
section
variable {w : World} {cd : Value} {l0 : List Int}
set_option maxRecDepth 100000 in
theorem c_spec_DrawHalfZeros (h : Byts w cd l0) : Calls Tryz.prog 69 #[cd] w fun e w' => (∃ (c : Cir) (gv ov : Value) (k r : Int), e = .returned (.tuple #[cirV c gv ov, .int .i64 k, .int .i64 r]) ∧ AnC c ∧ OwnG w' w.heap.size gv c.gs ∧ OwnI w' w.heap.size ov c.outs) ∧ Below w.heap.size w w' := by
  obtain ⟨A0, c0, rfl⟩ := h.form
  obtain ⟨hC, hR, hB, hS⟩ := pk_new h
  have HW := Lib.hid (And.intro hR (And.intro hB hS))
  have HC := Lib.hid hC
  clear h hR hB hS hC
  go_enter Tryz.func69, Tryz.ntmps69
  go_wp2_with fail
  refine (c_anyCircuit HC.out (by omega)).mono ?_
  rintro e w1 ⟨c, gv, ov, rfl, hs, hog, hoo, -, hc1, hg1⟩
  obtain ⟨Ag, cg, eg, -⟩ := own_form hog
  obtain ⟨Ao, co, eo, -⟩ := own_form hoo
  subst eg eo
  have HP := Lib.hid (Ck.start HC.out HW.out.1 (by have := HW.out.2.2; omega) hog hoo hc1 hg1)
  have HS := Lib.hid hs
  clear hog hoo hc1 hg1 hs
  unfold cirV
  go_wp2_with fail
  refine (HP.out.c_pick (by omega) (by omega)).mono ?_
  rintro e w2 ⟨r1, rfl, h10, h11, hP2⟩
  replace HP := Lib.hid hP2
  clear hP2
  go_wp2_with fail
  refine (HP.out.c_pick (by omega) (by omega)).mono ?_
  rintro e w3 ⟨r2, rfl, h20, h21, hP2⟩
  replace HP := Lib.hid hP2
  have hgl := hP2.cur.lt
  clear hP2
  go_wp2_with fail
  refine ((HP.out.alloc _).c_among (l := [r1, r2, 1000000000, 1000000001]) (by omega) (ints_lit _ _ _ rfl (by simp)) (by simp) (by simp) (by rintro b hb; simp [Value.ownBlock] at hb; omega)).mono ?_
  rintro e w4 ⟨k, rfl, hP2⟩
  replace HP := Lib.hid hP2
  clear hP2
  go_wp2_with fail
  refine (HP.out.c_offset (by omega)).mono ?_
  rintro e w5 ⟨r, rfl, hP2⟩
  replace HP := Lib.hid hP2
  obtain ⟨x0, x1, x2, x3, f0, f1, f2, f3⟩ := hP2.resf
  obtain ⟨d1, d4, k0, k1, k2, k3⟩ := hP2.done HW.out.2.1 (Nat.le_refl _) (Nat.le_succ _) HW.out.2.1.size
  have HD := Lib.hid (And.intro d1 d4)
  have HK := Lib.hid (And.intro k0 (And.intro k1 (And.intro k2 k3)))
  clear hP2 d1 d4 k0 k1 k2 k3
  go_wp2
  obtain ⟨k0, k1, k2, k3⟩ := HK.out
  exact bodyPost_ret (v := .tuple #[cirV c (.slice Ag c.gs.length cg) (.slice Ao c.outs.length co), .int .i64 k, .int .i64 r]) (by simp [results, Tryz.results69, go_sem, k0, k1, k2, k3, cirV]) rfl ⟨⟨c, _, _, k, r, rfl, HS.out, HD.out.1.1, HD.out.1.2⟩, HD.out.2⟩
set_option maxRecDepth 100000 in
theorem c_spec_DrawZeroLabels (h : Byts w cd l0) : Calls Tryz.prog 99 #[cd] w fun e w' => (∃ (c : Cir) (gv ov : Value) (k r : Int), e = .returned (.tuple #[cirV c gv ov, .int .i64 k, .int .i64 r]) ∧ AnC c ∧ OwnG w' w.heap.size gv c.gs ∧ OwnI w' w.heap.size ov c.outs) ∧ Below w.heap.size w w' := by
  obtain ⟨A0, c0, rfl⟩ := h.form
  obtain ⟨hC, hR, hB, hS⟩ := pk_new h
  have HW := Lib.hid (And.intro hR (And.intro hB hS))
  have HC := Lib.hid hC
  clear h hR hB hS hC
  go_enter Tryz.func99, Tryz.ntmps99
  go_wp2_with fail
  refine (c_anyCircuit HC.out (by omega)).mono ?_
  rintro e w1 ⟨c, gv, ov, rfl, hs, hog, hoo, -, hc1, hg1⟩
  obtain ⟨Ag, cg, eg, -⟩ := own_form hog
  obtain ⟨Ao, co, eo, -⟩ := own_form hoo
  subst eg eo
  have HP := Lib.hid (Ck.start HC.out HW.out.1 (by have := HW.out.2.2; omega) hog hoo hc1 hg1)
  have HS := Lib.hid hs
  clear hog hoo hc1 hg1 hs
  unfold cirV
  go_wp2_with fail
  refine (HP.out.c_secret (by omega)).mono ?_
  rintro e w2 ⟨k, rfl, hP2⟩
  replace HP := Lib.hid hP2
  clear hP2
  go_wp2_with fail
  refine (HP.out.c_offset (by omega)).mono ?_
  rintro e w5 ⟨r, rfl, hP2⟩
  replace HP := Lib.hid hP2
  obtain ⟨x0, x1, x2, x3, f0, f1, f2, f3⟩ := hP2.resf
  obtain ⟨d1, d4, k0, k1, k2, k3⟩ := hP2.done HW.out.2.1 (Nat.le_refl _) (Nat.le_succ _) HW.out.2.1.size
  have HD := Lib.hid (And.intro d1 d4)
  have HK := Lib.hid (And.intro k0 (And.intro k1 (And.intro k2 k3)))
  clear hP2 d1 d4 k0 k1 k2 k3
  go_wp2
  obtain ⟨k0, k1, k2, k3⟩ := HK.out
  exact bodyPost_ret (v := .tuple #[cirV c (.slice Ag c.gs.length cg) (.slice Ao c.outs.length co), .int .i64 k, .int .i64 r]) (by simp [results, Tryz.results99, go_sem, k0, k1, k2, k3, cirV]) rfl ⟨⟨c, _, _, k, r, rfl, HS.out, HD.out.1.1, HD.out.1.2⟩, HD.out.2⟩
theorem c_spec_DrawHalveCircuit (h : Byts w cd l0) : Calls Tryz.prog 9 #[cd] w fun e w' => (∃ (c : Cir) (gv ov : Value) (k r : Int), e = .returned (.tuple #[cirV c gv ov, .int .i64 k, .int .i64 r]) ∧ AnC c ∧ OwnG w' w.heap.size gv c.gs ∧ OwnI w' w.heap.size ov c.outs) ∧ Below w.heap.size w w' := by
  have H := Lib.hid h
  obtain ⟨A0, c0, rfl⟩ := h.form
  clear h
  have hz : w.heap.size < (w.alloc (.cells #[.int .i64 0, .int .i64 0, .slice none 0 0, .slice none 0 0] 26)).heap.size := by simp
  have HR := Lib.hid (Blk.new w 26 #[.int .i64 0, .int .i64 0, .slice none 0 0, .slice none 0 0])
  have HB0 := Lib.hid ((Below.refl w.heap.size w).alloc (Nat.le_refl _) (.cells #[.int .i64 0, .int .i64 0, .slice none 0 0, .slice none 0 0] 26))
  go_enter Tryz.func9, Tryz.ntmps9
  go_wp2_with fail
  refine (c_spec_DrawHalfZeros (H.out.below HB0.out)).mono ?_
  rintro e w1 ⟨⟨c, gv, ov, k, r, rfl, hs, hog, hoo⟩, hb⟩
  have HS := Lib.hid hs
  obtain ⟨Ag, cg, eg, -⟩ := own_form hog
  obtain ⟨Ao, co, eo, -⟩ := own_form hoo
  subst eg eo
  have HO := Lib.hid (And.intro hog hoo)
  have hr := HR.out.step hb
  have r0 := hr.cell 0
  have r1 := hr.cell 1
  have r2 := hr.cell 2
  have r3 := hr.cell 3
  have f0 := hr.free 0
  have f1 := hr.free 1
  have f2 := hr.free 2
  have f3 := hr.free 3
  have hf := (((hr.set_ 0 (.int .i64 c.i0)).set_ 1 (.int .i64 c.i1)).set_ 2 (.slice Ag c.gs.length cg)).set_ 3 (.slice Ao c.outs.length co)
  have hbw : Below w.heap.size w ((((w1.setCell ⟨w.heap.size, 0, none⟩ (.int .i64 c.i0)).setCell ⟨w.heap.size, 1, none⟩ (.int .i64 c.i1)).setCell ⟨w.heap.size, 2, none⟩ (.slice Ag c.gs.length cg)).setCell ⟨w.heap.size, 3, none⟩ (.slice Ao c.outs.length co)) :=
    (((((HB0.out.trans (hb.mono (Nat.le_of_lt hz)))).setCell (p := ⟨w.heap.size, 0, none⟩) (Nat.le_refl _) _).setCell (p := ⟨w.heap.size, 1, none⟩) (Nat.le_refl _) _).setCell (p := ⟨w.heap.size, 2, none⟩) (Nat.le_refl _) _).setCell (p := ⟨w.heap.size, 3, none⟩) (Nat.le_refl _) _
  have HD := Lib.hid (And.intro (hf.cell 0) (And.intro (hf.cell 1) (And.intro (hf.cell 2) (And.intro (hf.cell 3) hbw))))
  clear hs hog hoo hb hr hf hbw
  unfold cirV
  go_wp2
  obtain ⟨k0, k1, k2, k3, hbw⟩ := HD.out
  refine bodyPost_ret (v := .tuple #[cirV c (.slice Ag c.gs.length cg) (.slice Ao c.outs.length co), .int .i64 k, .int .i64 r]) (by simp [results, Tryz.results9, go_sem, k0, k1, k2, k3, cirV]) rfl ⟨⟨c, _, _, k, r, rfl, HS.out, own_mono (own_set4 HO.out.1 hz _ _ _ _) (Nat.le_of_lt hz), OwnI.mono (own_set4 HO.out.2 hz _ _ _ _) (Nat.le_of_lt hz)⟩, hbw⟩
theorem c_spec_DrawGarbleCircuit (h : Byts w cd l0) : Calls Tryz.prog 31 #[cd] w fun e w' => (∃ (c : Cir) (gv ov : Value) (k r : Int), e = .returned (.tuple #[cirV c gv ov, .int .i64 k, .int .i64 r]) ∧ AnC c ∧ OwnG w' w.heap.size gv c.gs ∧ OwnI w' w.heap.size ov c.outs) ∧ Below w.heap.size w w' := by
  have H := Lib.hid h
  obtain ⟨A0, c0, rfl⟩ := h.form
  clear h
  have hz : w.heap.size < (w.alloc (.cells #[.int .i64 0, .int .i64 0, .slice none 0 0, .slice none 0 0] 26)).heap.size := by simp
  have HR := Lib.hid (Blk.new w 26 #[.int .i64 0, .int .i64 0, .slice none 0 0, .slice none 0 0])
  have HB0 := Lib.hid ((Below.refl w.heap.size w).alloc (Nat.le_refl _) (.cells #[.int .i64 0, .int .i64 0, .slice none 0 0, .slice none 0 0] 26))
  go_enter Tryz.func31, Tryz.ntmps31
  go_wp2_with fail
  refine (c_spec_DrawZeroLabels (H.out.below HB0.out)).mono ?_
  rintro e w1 ⟨⟨c, gv, ov, k, r, rfl, hs, hog, hoo⟩, hb⟩
  have HS := Lib.hid hs
  obtain ⟨Ag, cg, eg, -⟩ := own_form hog
  obtain ⟨Ao, co, eo, -⟩ := own_form hoo
  subst eg eo
  have HO := Lib.hid (And.intro hog hoo)
  have hr := HR.out.step hb
  have r0 := hr.cell 0
  have r1 := hr.cell 1
  have r2 := hr.cell 2
  have r3 := hr.cell 3
  have f0 := hr.free 0
  have f1 := hr.free 1
  have f2 := hr.free 2
  have f3 := hr.free 3
  have hf := (((hr.set_ 0 (.int .i64 c.i0)).set_ 1 (.int .i64 c.i1)).set_ 2 (.slice Ag c.gs.length cg)).set_ 3 (.slice Ao c.outs.length co)
  have hbw : Below w.heap.size w ((((w1.setCell ⟨w.heap.size, 0, none⟩ (.int .i64 c.i0)).setCell ⟨w.heap.size, 1, none⟩ (.int .i64 c.i1)).setCell ⟨w.heap.size, 2, none⟩ (.slice Ag c.gs.length cg)).setCell ⟨w.heap.size, 3, none⟩ (.slice Ao c.outs.length co)) :=
    (((((HB0.out.trans (hb.mono (Nat.le_of_lt hz)))).setCell (p := ⟨w.heap.size, 0, none⟩) (Nat.le_refl _) _).setCell (p := ⟨w.heap.size, 1, none⟩) (Nat.le_refl _) _).setCell (p := ⟨w.heap.size, 2, none⟩) (Nat.le_refl _) _).setCell (p := ⟨w.heap.size, 3, none⟩) (Nat.le_refl _) _
  have HD := Lib.hid (And.intro (hf.cell 0) (And.intro (hf.cell 1) (And.intro (hf.cell 2) (And.intro (hf.cell 3) hbw))))
  clear hs hog hoo hb hr hf hbw
  unfold cirV
  go_wp2
  obtain ⟨k0, k1, k2, k3, hbw⟩ := HD.out
  refine bodyPost_ret (v := .tuple #[cirV c (.slice Ag c.gs.length cg) (.slice Ao c.outs.length co), .int .i64 k, .int .i64 r]) (by simp [results, Tryz.results31, go_sem, k0, k1, k2, k3, cirV]) rfl ⟨⟨c, _, _, k, r, rfl, HS.out, own_mono (own_set4 HO.out.1 hz _ _ _ _) (Nat.le_of_lt hz), OwnI.mono (own_set4 HO.out.2 hz _ _ _ _) (Nat.le_of_lt hz)⟩, hbw⟩
end
end Go.Proofs.YtejeppjmlgfiaaaGreat

/- The contract of a draw for a run of halved circuits. Condition: the bytes read as bytes. -/
namespace Go.Proofs.YtejeppjmlgfiaaaGreat
open Go.RowKit
set_option linter.unusedVariables false
set_option maxHeartbeats 4000000
section
variable {w : World} {cd : Value} {l0 : List Int}
set_option maxRecDepth 100000 in
theorem c_spec_DrawRunHalved (h : Byts w cd l0) : Calls Tryz.prog 6 #[cd] w fun e w' => (∃ (c : Cir) (gv ov u v : Value) (k : Int) (a b : List Int), e = .returned (.tuple #[cirV c gv ov, .int .i64 k, u, v]) ∧ AnC c ∧ a.length ≤ 601 ∧ b.length ≤ 601 ∧ CirIn w' gv ov c ∧ Ints w' u a ∧ Ints w' v b) ∧ Below w.heap.size w w' := by
  obtain ⟨A0, c0, rfl⟩ := h.form
  obtain ⟨hC, hR, hB, hS⟩ := pk_new h
  have HW := Lib.hid (And.intro hR (And.intro hB hS))
  have HC := Lib.hid hC
  clear h hR hB hS hC
  go_enter Tryz.func6, Tryz.ntmps6
  go_wp2_with fail
  refine (c_anyCircuit HC.out (by omega)).mono ?_
  rintro e w1 ⟨c, gv, ov, rfl, hs, hog, hoo, -, hc1, hg1⟩
  obtain ⟨Ag, cg, eg, -⟩ := own_form hog
  obtain ⟨Ao, co, eo, -⟩ := own_form hoo
  subst eg eo
  have hP := Pk.start HC.out HW.out.1 (by have := HW.out.2.2; omega) hog hoo hc1 hg1
  have HP := Lib.hid hP
  have hi0 : c.i0 ≤ 21 := hs.1.2.1
  have hi1 : c.i1 ≤ 21 := hs.1.2.2.2
  have HS := Lib.hid hs
  have HX := Lib.hid (show w1.heap.size = w1.heap.size from rfl)
  obtain ⟨x0, x1, x2, x3⟩ := hP.four
  clear hog hoo hc1 hg1 hP hs
  unfold cirV
  go_wp2_with fail
  refine (c_inputs HP.out.cur (by omega) hi0 hi1).mono ?_
  rintro e w2 ⟨u, v, rfl, a, b, ha, hb, hoa, hob, hd⟩
  obtain ⟨Aa, ca, ea, -⟩ := own_form hoa
  obtain ⟨Ab, cb, eb, -⟩ := own_form hob
  subst ea eb
  have hQ := HP.out.two hoa hob hd
  have HQ := Lib.hid hQ
  have hP0 := hQ.drew
  have HAB := Lib.hid (And.intro ha hb)
  generalize w1.heap.size = x at *
  clear hoa hob hd HP hQ x0 x1 x2 x3 ha hb
  go_wp2_with fail
  go_region_held3 (fun w' => w'.cell? ⟨x, 0, none⟩ = some (.int .i64 c.i0) ∧ w'.cell? ⟨x, 1, none⟩ = some (.int .i64 c.i1) ∧ w'.cell? ⟨x, 2, none⟩ = some (.slice Ag c.gs.length cg) ∧ w'.cell? ⟨x, 3, none⟩ = some (.slice Ao c.outs.length co))
    (first | with_reducible exact hP3.four | with_reducible exact hP3.stored _ _ _ _ | with_reducible exact hP2.four | with_reducible exact (hP2.alloc _).four | with_reducible exact hP1.four | with_reducible exact hP0.four)
    (first
      | (go_at_call 55; (first | ((with_reducible refine (hP1.c_pick (by omega) (by omega)).mono ?_); rintro e wb ⟨r2, rfl, h20, h21, hP2⟩; have hgl := hP2.cur.lt) | ((with_reducible refine (hP0.c_pick (by omega) (by omega)).mono ?_); rintro e wa ⟨r1, rfl, h10, h11, hP1⟩)))
      | (go_at_call 54; (refine (Pk.c_among (lv := .slice (some ⟨wb.heap.size, 0, none⟩) 4 4) (hP2.alloc (.cells #[.int .i64 r1, .int .i64 r2, .int .i64 0, .int .i64 (-1)] 3)) (by omega) (ints_lit wb [r1, r2, 0, -1] #[.int .i64 r1, .int .i64 r2, .int .i64 0, .int .i64 (-1)] rfl (by simp)) (by simp) (by simp) (by rintro b hb; simp [Value.ownBlock] at hb; omega)).mono ?_); rintro e wm ⟨k, rfl, hP3⟩; obtain ⟨r0, r1, r2, r3, f0, f1, f2, f3⟩ := hP3.resf))
  all_goals
    go_wp2
    obtain ⟨d1, d2, d3, d4, k0, k1, k2, k3⟩ := hP3.done HW.out.2.1 (Nat.le_refl _) (Nat.le_succ _) HW.out.2.1.size
    exact bodyPost_ret (v := .tuple #[cirV c (.slice Ag c.gs.length cg) (.slice Ao c.outs.length co), .int .i64 k, .slice Aa a.length ca, .slice Ab b.length cb]) (by simp [results, Tryz.results6, go_sem, k0, k1, k2, k3, cirV]) rfl ⟨⟨c, _, _, _, _, k, a, b, rfl, HS.out, HAB.out.1, HAB.out.2, d1, d2, d3⟩, d4⟩
set_option maxRecDepth 100000 in
theorem c_spec_DrawRunGarbled (h : Byts w cd l0) : Calls Tryz.prog 23 #[cd] w fun e w' => (∃ (c : Cir) (gv ov u v : Value) (k : Int) (a b : List Int), e = .returned (.tuple #[cirV c gv ov, .int .i64 k, u, v]) ∧ AnC c ∧ a.length ≤ 601 ∧ b.length ≤ 601 ∧ CirIn w' gv ov c ∧ Ints w' u a ∧ Ints w' v b) ∧ Below w.heap.size w w' := by
  obtain ⟨A0, c0, rfl⟩ := h.form
  obtain ⟨hC, hR, hB, hS⟩ := pk_new h
  have HW := Lib.hid (And.intro hR (And.intro hB hS))
  have HC := Lib.hid hC
  clear h hR hB hS hC
  go_enter Tryz.func23, Tryz.ntmps23
  go_wp2_with fail
  refine (c_anyCircuit HC.out (by omega)).mono ?_
  rintro e w1 ⟨c, gv, ov, rfl, hs, hog, hoo, -, hc1, hg1⟩
  obtain ⟨Ag, cg, eg, -⟩ := own_form hog
  obtain ⟨Ao, co, eo, -⟩ := own_form hoo
  subst eg eo
  have hP := Pk.start HC.out HW.out.1 (by have := HW.out.2.2; omega) hog hoo hc1 hg1
  have HP := Lib.hid hP
  have hi0 : c.i0 ≤ 21 := hs.1.2.1
  have hi1 : c.i1 ≤ 21 := hs.1.2.2.2
  have HS := Lib.hid hs
  have HX := Lib.hid (show w1.heap.size = w1.heap.size from rfl)
  obtain ⟨x0, x1, x2, x3⟩ := hP.four
  clear hog hoo hc1 hg1 hP hs
  unfold cirV
  go_wp2_with fail
  refine (c_inputs HP.out.cur (by omega) hi0 hi1).mono ?_
  rintro e w2 ⟨u, v, rfl, a, b, ha, hb, hoa, hob, hd⟩
  obtain ⟨Aa, ca, ea, -⟩ := own_form hoa
  obtain ⟨Ab, cb, eb, -⟩ := own_form hob
  subst ea eb
  have hQ := HP.out.two hoa hob hd
  have HQ := Lib.hid hQ
  have hP0 := hQ.drew
  have HAB := Lib.hid (And.intro ha hb)
  generalize w1.heap.size = x at *
  clear hoa hob hd HP hQ x0 x1 x2 x3 ha hb
  go_wp2_with fail
  go_region_held3 (fun w' => w'.cell? ⟨x, 0, none⟩ = some (.int .i64 c.i0) ∧ w'.cell? ⟨x, 1, none⟩ = some (.int .i64 c.i1) ∧ w'.cell? ⟨x, 2, none⟩ = some (.slice Ag c.gs.length cg) ∧ w'.cell? ⟨x, 3, none⟩ = some (.slice Ao c.outs.length co))
    (first | with_reducible exact hP3.four | with_reducible exact hP3.stored _ _ _ _ | with_reducible exact hP0.four)
    (first
      | (go_at_call 89; (with_reducible refine (hP0.c_secret (by omega)).mono ?_); rintro e wm ⟨k, rfl, hP3⟩; obtain ⟨r0, r1, r2, r3, f0, f1, f2, f3⟩ := hP3.resf))
  all_goals
    go_wp2
    obtain ⟨d1, d2, d3, d4, k0, k1, k2, k3⟩ := hP3.done HW.out.2.1 (Nat.le_refl _) (Nat.le_succ _) HW.out.2.1.size
    exact bodyPost_ret (v := .tuple #[cirV c (.slice Ag c.gs.length cg) (.slice Ao c.outs.length co), .int .i64 k, .slice Aa a.length ca, .slice Ab b.length cb]) (by simp [results, Tryz.results23, go_sem, k0, k1, k2, k3, cirV]) rfl ⟨⟨c, _, _, _, _, k, a, b, rfl, HS.out, HAB.out.1, HAB.out.2, d1, d2, d3⟩, d4⟩
end
end Go.Proofs.YtejeppjmlgfiaaaGreat

/- The reference's labels of inputs at a key and an offset that may be invalid: some labels come back. Conditions: the list is short and of bits. -/
namespace Go.Proofs.YtejeppjmlgfiaaaGreat
open Go.RowKit
set_option linter.unusedVariables false
set_option maxHeartbeats 400000 in
theorem c_spec_lbInputsW {v : Value} {l : List Int} {w : World} {key r : Int} (h : Ints w v l) (hl : l.length ≤ 2000) (hb : allB l 0 1 = true) (hk : -1 ≤ key ∧ key ≤ 1000000001) :
    Calls Tryz.prog 65 #[.int .i64 key, .int .i64 r, v] w fun e w' => ∃ l2 : List Int, l2.length = l.length ∧ RetI w l2 e w' := by
  obtain ⟨A, c, rfl, hlc, hcm, hrd⟩ := h
  go_enter Tryz.func65, Tryz.ntmps65
  go_wp2
  go_loopw [7, 12] (fun u i wr => ∃ (k : Nat) (l2 : List Int), k ≤ l.length ∧ i = .int .i64 k ∧ l2.length = k ∧ OwnI wr w.heap.size u l2 ∧ Hid (Below w.heap.size w wr)) (fun _ i _ => l.length - (intOf i).toNat)
  case atStart => exact ⟨0, [], Nat.zero_le _, rfl, rfl, OwnI.nil _ _, Below.refl _ _⟩
  case round =>
    obtain ⟨k, l2, hk2, rfl, hl2, hown, HBW⟩ := hrel
    by_cases hlt : k < l.length
    · obtain ⟨b, o, x, rfl, hbl, hxk, hcell⟩ := (hrd.below HBW.out).int_at hlt
      have hx := bit_cases hb (List.mem_of_getElem? hxk)
      have hlen : l2.length ≤ l.length := by omega
      have HL2 := Lib.hid hl2
      have HO := Lib.hid hown
      clear hxk hown hl2
      go_wp2_with fail
      refine (c_spec_lbZero (by omega) (by omega)).mono ?_
      rintro e w1 ⟨rfl, hb1⟩
      generalize digM [key, (k : Int), 13, 0] = z at *
      have HB1 := Lib.hid (below_step HBW.out hb1)
      have hown := HO.out.below hb1
      have hsz := HB1.out.size
      clear hb1
      go_wp2_with (at_builtin; refine wp_app1 (B := w.heap.size) rfl rfl Tryz.underlying24 info_int rfl hown rfl rfl rfl (by unfold maxLen; omega) (by omega) hsz ?_; intro v' w2 ho hg hfr)
      have HB := Lib.hid (below_app HB1.out hown hg (Nat.le_refl _))
      go_roundw
      case rel => exact ⟨k + 1, _, by omega, by go_num, by have := HL2.out; simp; omega, OwnI.snoc ho, HB⟩
      case measure => simp [intOf]; omega
    · have HO := Lib.hid hown
      have HL2 := Lib.hid hl2
      clear hown hl2
      go_wp2
      go_ret
      exact ⟨l2, by have := HL2.out; omega, RetI.mk HO.out HBW.out⟩
end Go.Proofs.YtejeppjmlgfiaaaGreat

/- The laws' comparisons of equal lists, of equal lists of lists, and of equal tables. Conditions: the lists are short. -/
namespace Go.Proofs.YtejeppjmlgfiaaaGreat
open Go.RowKit
set_option linter.unusedVariables false
theorem gb_row_le {g : Gb} {r : List Int} (h : r ∈ g.rows) : r.length ≤ g.sz := by
  obtain ⟨i, hi⟩ := List.getElem?_of_mem h
  have := cntR_len hi
  unfold Gb.sz
  omega
set_option maxHeartbeats 1000000 in
theorem c_laws_sameInts {va vb : Value} {l : List Int} {w : World} (ha : Ints w va l) (hb' : Ints w vb l) (hl : l.length ≤ 2097152) :
    Calls Tryz.prog 26 #[va, vb] w fun e w' => e = .returned (.bool true) ∧ Below w.heap.size w w' := by
  obtain ⟨A, c, rfl, hlc, hcm, hrd⟩ := ha
  obtain ⟨A', c', rfl, hlc', hcm', hrd'⟩ := hb'
  go_enter Tryz.func26, Tryz.ntmps26
  go_wp2
  go_loopw [13] (fun i wr => ∃ k : Nat, k ≤ l.length ∧ i = .int .i64 k ∧ Hid (Below w.heap.size w wr)) (fun i _ => l.length - (intOf i).toNat)
  case atStart => exact ⟨0, Nat.zero_le _, rfl, Lib.hid (Below.refl _ _)⟩
  case round =>
    obtain ⟨k, hk, rfl, HB⟩ := hrel
    obtain ⟨wa, rfl⟩ : ∃ W, W = wr := ⟨wr, rfl⟩
    by_cases hlt : k < l.length
    · obtain ⟨b1, o1, x, rfl, hbl, hxk, hcell⟩ := hrd.int_at hlt
      obtain ⟨b2, o2, y, rfl, hbl2, hyk, hcell2⟩ := hrd'.int_at hlt
      obtain rfl : x = y := by rw [hxk] at hyk; injection hyk
      have e1 := (HB.out.cell (p := ⟨b1, o1 + k, none⟩) hbl).trans hcell
      have e2 := (HB.out.cell (p := ⟨b2, o2 + k, none⟩) hbl2).trans hcell2
      have hk0 : (0 : Int) ≤ (k : Int) := Int.natCast_nonneg _
      have hk1 : (k : Int) < (l.length : Int) := by omega
      clear hxk hyk hcell hcell2
      go_wp2_with fail
      go_region_held3 (fun w' => w'.cell? ⟨b1, o1 + k, none⟩ = some (.int .i64 x) ∧ w'.cell? ⟨b2, o2 + k, none⟩ = some (.int .i64 x)) (exact ⟨e1, e2⟩) (fail)
      go_wp2
      go_roundw
      case rel => exact ⟨k + 1, by omega, by go_num, Lib.hid HB.out.drew⟩
      case measure => simp [intOf]; omega
    · go_wp2
      go_ret
      exact ⟨rfl, HB.out⟩
set_option maxHeartbeats 1000000 in
theorem c_laws_qInts {va vb : Value} {l : List Int} {w : World} (ha : Ints w va l) (hb' : Ints w vb l) (hl : l.length ≤ 2097152) :
    Calls Tryz.prog 14 #[va, vb] w fun e w' => e = .returned (.bool true) ∧ Below w.heap.size w w' := by
  obtain ⟨A, c, rfl, hlc, hcm, hrd⟩ := ha
  obtain ⟨A', c', rfl, hlc', hcm', hrd'⟩ := hb'
  go_enter Tryz.func14, Tryz.ntmps14
  go_wp2
  go_loopw [13] (fun i wr => ∃ k : Nat, k ≤ l.length ∧ i = .int .i64 k ∧ Hid (Below w.heap.size w wr)) (fun i _ => l.length - (intOf i).toNat)
  case atStart => exact ⟨0, Nat.zero_le _, rfl, Lib.hid (Below.refl _ _)⟩
  case round =>
    obtain ⟨k, hk, rfl, HB⟩ := hrel
    obtain ⟨wa, rfl⟩ : ∃ W, W = wr := ⟨wr, rfl⟩
    by_cases hlt : k < l.length
    · obtain ⟨b1, o1, x, rfl, hbl, hxk, hcell⟩ := hrd.int_at hlt
      obtain ⟨b2, o2, y, rfl, hbl2, hyk, hcell2⟩ := hrd'.int_at hlt
      obtain rfl : x = y := by rw [hxk] at hyk; injection hyk
      have e1 := (HB.out.cell (p := ⟨b1, o1 + k, none⟩) hbl).trans hcell
      have e2 := (HB.out.cell (p := ⟨b2, o2 + k, none⟩) hbl2).trans hcell2
      have hk0 : (0 : Int) ≤ (k : Int) := Int.natCast_nonneg _
      have hk1 : (k : Int) < (l.length : Int) := by omega
      clear hxk hyk hcell hcell2
      go_wp2_with fail
      go_region_held3 (fun w' => w'.cell? ⟨b1, o1 + k, none⟩ = some (.int .i64 x) ∧ w'.cell? ⟨b2, o2 + k, none⟩ = some (.int .i64 x)) (exact ⟨e1, e2⟩) (fail)
      go_wp2
      go_roundw
      case rel => exact ⟨k + 1, by omega, by go_num, Lib.hid HB.out.drew⟩
      case measure => simp [intOf]; omega
    · go_wp2
      go_ret
      exact ⟨rfl, HB.out⟩
set_option maxHeartbeats 1000000 in
theorem c_laws_sameLists {va vb : Value} {rows : List (List Int)} {w : World} (ha : RowsIn w va rows) (hb' : RowsIn w vb rows) (hl : rows.length ≤ 2097152) (hr : ∀ r ∈ rows, r.length ≤ 2097152) :
    Calls Tryz.prog 102 #[va, vb] w fun e w' => e = .returned (.bool true) ∧ Below w.heap.size w w' := by
  have HR := Lib.hid hr
  obtain ⟨A, c, rfl, hlc, hcm, hat⟩ := ha.form
  obtain ⟨A', c', rfl, hlc', hcm', hat'⟩ := hb'.form
  have HA := Lib.hid hat
  have HB' := Lib.hid hat'
  clear hr hat hat' ha hb'
  go_enter Tryz.func102, Tryz.ntmps102
  go_wp2
  go_loopw [13] (fun i wr => ∃ k : Nat, k ≤ rows.length ∧ i = .int .i64 k ∧ Hid (Below w.heap.size w wr)) (fun i _ => rows.length - (intOf i).toNat)
  case atStart => exact ⟨0, Nat.zero_le _, rfl, Lib.hid (Below.refl _ _)⟩
  case round =>
    obtain ⟨k, hk, rfl, HB⟩ := hrel
    obtain ⟨wa, rfl⟩ : ∃ W, W = wr := ⟨wr, rfl⟩
    by_cases hlt : k < rows.length
    · obtain ⟨b1, o1, A1, r1, c1, rfl, hbl, hrk, hcell, hi1⟩ := HA.out k hlt
      obtain ⟨b2, o2, A2, r2, c2, rfl, hbl2, hrk2, hcell2, hi2⟩ := HB'.out k hlt
      obtain rfl : r1 = r2 := by rw [hrk] at hrk2; injection hrk2
      have e1 := (HB.out.cell (p := ⟨b1, o1 + k, none⟩) hbl).trans hcell
      have e2 := (HB.out.cell (p := ⟨b2, o2 + k, none⟩) hbl2).trans hcell2
      have H1 := Lib.hid (hi1.below HB.out)
      have H2 := Lib.hid (hi2.below HB.out)
      have hrl := HR.out r1 (List.mem_of_getElem? hrk)
      have hk0 : (0 : Int) ≤ (k : Int) := Int.natCast_nonneg _
      have hk1 : (k : Int) < (rows.length : Int) := by omega
      clear hrk hrk2 hcell hcell2 hi1 hi2
      have hw1 := Nat.lt_of_lt_of_le hbl HB.out.size
      have hw2 := Nat.lt_of_lt_of_le hbl2 HB.out.size
      go_wp2_with fail
      go_region_held3 (fun w' => w'.cell? ⟨b1, o1 + k, none⟩ = some (.slice A1 r1.length c1) ∧ w'.cell? ⟨b2, o2 + k, none⟩ = some (.slice A2 r1.length c2))
        (first | exact KP.out | exact ⟨e1, e2⟩)
        (first
          | (go_at_call 26; refine (c_laws_sameInts (H1.out.below (Below.refl _ _).drew) (H2.out.below (Below.refl _ _).drew) hrl).mono ?_; rintro e w2 ⟨rfl, hb2⟩; have HB2 := Lib.hid (below_step HB.out (below_step (Below.refl _ _).drew hb2)); have KP := Lib.hid (And.intro ((hb2.cell (p := ⟨b1, o1 + k, none⟩) hw1).trans e1) ((hb2.cell (p := ⟨b2, o2 + k, none⟩) hw2).trans e2)); clear hb2))
      go_wp2
      go_roundw
      case rel => exact ⟨k + 1, by omega, by go_num, HB2⟩
      case measure => simp [intOf]; omega
    · go_wp2
      go_ret
      exact ⟨rfl, HB.out⟩
set_option maxHeartbeats 1000000 in
theorem c_laws_qLists {va vb : Value} {rows : List (List Int)} {w : World} (ha : RowsIn w va rows) (hb' : RowsIn w vb rows) (hl : rows.length ≤ 2097152) (hr : ∀ r ∈ rows, r.length ≤ 2097152) :
    Calls Tryz.prog 73 #[va, vb] w fun e w' => e = .returned (.bool true) ∧ Below w.heap.size w w' := by
  have HR := Lib.hid hr
  obtain ⟨A, c, rfl, hlc, hcm, hat⟩ := ha.form
  obtain ⟨A', c', rfl, hlc', hcm', hat'⟩ := hb'.form
  have HA := Lib.hid hat
  have HB' := Lib.hid hat'
  clear hr hat hat' ha hb'
  go_enter Tryz.func73, Tryz.ntmps73
  go_wp2
  go_loopw [13] (fun i wr => ∃ k : Nat, k ≤ rows.length ∧ i = .int .i64 k ∧ Hid (Below w.heap.size w wr)) (fun i _ => rows.length - (intOf i).toNat)
  case atStart => exact ⟨0, Nat.zero_le _, rfl, Lib.hid (Below.refl _ _)⟩
  case round =>
    obtain ⟨k, hk, rfl, HB⟩ := hrel
    obtain ⟨wa, rfl⟩ : ∃ W, W = wr := ⟨wr, rfl⟩
    by_cases hlt : k < rows.length
    · obtain ⟨b1, o1, A1, r1, c1, rfl, hbl, hrk, hcell, hi1⟩ := HA.out k hlt
      obtain ⟨b2, o2, A2, r2, c2, rfl, hbl2, hrk2, hcell2, hi2⟩ := HB'.out k hlt
      obtain rfl : r1 = r2 := by rw [hrk] at hrk2; injection hrk2
      have e1 := (HB.out.cell (p := ⟨b1, o1 + k, none⟩) hbl).trans hcell
      have e2 := (HB.out.cell (p := ⟨b2, o2 + k, none⟩) hbl2).trans hcell2
      have H1 := Lib.hid (hi1.below HB.out)
      have H2 := Lib.hid (hi2.below HB.out)
      have hrl := HR.out r1 (List.mem_of_getElem? hrk)
      have hk0 : (0 : Int) ≤ (k : Int) := Int.natCast_nonneg _
      have hk1 : (k : Int) < (rows.length : Int) := by omega
      clear hrk hrk2 hcell hcell2 hi1 hi2
      have hw1 := Nat.lt_of_lt_of_le hbl HB.out.size
      have hw2 := Nat.lt_of_lt_of_le hbl2 HB.out.size
      go_wp2_with fail
      go_region_held3 (fun w' => w'.cell? ⟨b1, o1 + k, none⟩ = some (.slice A1 r1.length c1) ∧ w'.cell? ⟨b2, o2 + k, none⟩ = some (.slice A2 r1.length c2))
        (first | exact KP.out | exact ⟨e1, e2⟩)
        (first
          | (go_at_call 14; refine (c_laws_qInts (H1.out.below (Below.refl _ _).drew) (H2.out.below (Below.refl _ _).drew) hrl).mono ?_; rintro e w2 ⟨rfl, hb2⟩; have HB2 := Lib.hid (below_step HB.out (below_step (Below.refl _ _).drew hb2)); have KP := Lib.hid (And.intro ((hb2.cell (p := ⟨b1, o1 + k, none⟩) hw1).trans e1) ((hb2.cell (p := ⟨b2, o2 + k, none⟩) hw2).trans e2)); clear hb2))
      go_wp2
      go_roundw
      case rel => exact ⟨k + 1, by omega, by go_num, HB2⟩
      case measure => simp [intOf]; omega
    · go_wp2
      go_ret
      exact ⟨rfl, HB.out⟩
set_option maxHeartbeats 1000000 in
theorem c_laws_qHalved {rv nv cv rv' nv' cv' : Value} {g : Gb} {w : World} (ha : GbIn w rv nv cv g) (hb : GbIn w rv' nv' cv' g) (hs : g.sz ≤ 2097152) :
    Calls Tryz.prog 15 #[gbV rv nv cv, gbV rv' nv' cv'] w fun e w' => e = .returned (.bool true) ∧ Below w.heap.size w w' := by
  have HA := Lib.hid ha
  have HB := Lib.hid hb
  have HS := Lib.hid hs
  obtain ⟨A1, c1, rfl, -⟩ := ha.rows.form
  obtain ⟨A2, c2, rfl, -⟩ := ha.ones
  obtain ⟨A3, c3, rfl, -⟩ := ha.cols
  obtain ⟨B1, d1, rfl, -⟩ := hb.rows.form
  obtain ⟨B2, d2, rfl, -⟩ := hb.ones
  obtain ⟨B3, d3, rfl, -⟩ := hb.cols
  clear ha hb hs
  unfold gbV
  obtain ⟨w0, hw0⟩ : ∃ W, (w.alloc (.cells #[.slice A1 g.rows.length c1, .slice A2 g.ones.length c2, .slice A3 g.cols.length c3] 35)).alloc (.cells #[.slice B1 g.rows.length d1, .slice B2 g.ones.length d2, .slice B3 g.cols.length d3] 35) = W := ⟨_, rfl⟩
  have HKA := Lib.hid ((Blk.new w 35 #[.slice A1 g.rows.length c1, .slice A2 g.ones.length c2, .slice A3 g.cols.length c3]).alloc (.cells #[.slice B1 g.rows.length d1, .slice B2 g.ones.length d2, .slice B3 g.cols.length d3] 35))
  rw [hw0] at HKA
  have HKB := Lib.hid (Blk.new (w.alloc (.cells #[.slice A1 g.rows.length c1, .slice A2 g.ones.length c2, .slice A3 g.cols.length c3] 35)) 35 #[.slice B1 g.rows.length d1, .slice B2 g.ones.length d2, .slice B3 g.cols.length d3])
  simp only [World.size_alloc, hw0] at HKB
  have HW : Hid (Below w.heap.size w w0) := by rw [← hw0]; exact ((Below.refl w.heap.size w).alloc (Nat.le_refl _) _).alloc (by simp) _
  have x0 := HKA.out.cell 0
  have x1 := HKA.out.cell 1
  have x2 := HKA.out.cell 2
  have y0 := HKB.out.cell 0
  have y1 := HKB.out.cell 1
  have y2 := HKB.out.cell 2
  go_enter Tryz.func15, Tryz.ntmps15
  go_wp2_with fail
  clear hw0 x0 x1 x2 y0 y1 y2
  refine (c_laws_qLists (HA.out.below HW.out).rows (HB.out.below HW.out).rows (by have := HS.out; unfold Gb.sz at this; omega) (fun r hr => Nat.le_trans (gb_row_le hr) HS.out)).mono ?_
  rintro e w1 ⟨rfl, hb1⟩
  replace HKA := Lib.hid (HKA.out.step hb1)
  replace HKB := Lib.hid (HKB.out.step hb1)
  replace HW := Lib.hid (below_step HW.out hb1)
  have x1 := HKA.out.cell 1
  have y1 := HKB.out.cell 1
  clear hb1
  go_wp2_with fail
  clear x1 y1
  refine (c_laws_qInts (HA.out.below HW.out).ones (HB.out.below HW.out).ones (by have := HS.out; unfold Gb.sz at this; omega)).mono ?_
  rintro e w2 ⟨rfl, hb2⟩
  replace HKA := Lib.hid (HKA.out.step hb2)
  replace HKB := Lib.hid (HKB.out.step hb2)
  replace HW := Lib.hid (below_step HW.out hb2)
  have x2 := HKA.out.cell 2
  have y2 := HKB.out.cell 2
  clear hb2
  go_wp2_with fail
  clear x2 y2
  refine (c_laws_qInts (HA.out.below HW.out).cols (HB.out.below HW.out).cols (by have := HS.out; unfold Gb.sz at this; omega)).mono ?_
  rintro e w3 ⟨rfl, hb3⟩
  replace HW := Lib.hid (below_step HW.out hb3)
  go_wp2
  go_ret
  exact ⟨rfl, HW.out⟩
set_option maxHeartbeats 1000000 in
theorem c_laws_pSameGarbled {rv nv cv rv' nv' cv' : Value} {g : Gb} {w : World} (ha : GbIn w rv nv cv g) (hb : GbIn w rv' nv' cv' g) (hs : g.sz ≤ 2097152) :
    Calls Tryz.prog 35 #[gbV rv nv cv, gbV rv' nv' cv'] w fun e w' => e = .returned (.bool true) ∧ Below w.heap.size w w' := by
  have HA := Lib.hid ha
  have HB := Lib.hid hb
  have HS := Lib.hid hs
  obtain ⟨A1, c1, rfl, -⟩ := ha.rows.form
  obtain ⟨A2, c2, rfl, -⟩ := ha.ones
  obtain ⟨A3, c3, rfl, -⟩ := ha.cols
  obtain ⟨B1, d1, rfl, -⟩ := hb.rows.form
  obtain ⟨B2, d2, rfl, -⟩ := hb.ones
  obtain ⟨B3, d3, rfl, -⟩ := hb.cols
  clear ha hb hs
  unfold gbV
  obtain ⟨w0, hw0⟩ : ∃ W, (w.alloc (.cells #[.slice A1 g.rows.length c1, .slice A2 g.ones.length c2, .slice A3 g.cols.length c3] 50)).alloc (.cells #[.slice B1 g.rows.length d1, .slice B2 g.ones.length d2, .slice B3 g.cols.length d3] 50) = W := ⟨_, rfl⟩
  have HKA := Lib.hid ((Blk.new w 50 #[.slice A1 g.rows.length c1, .slice A2 g.ones.length c2, .slice A3 g.cols.length c3]).alloc (.cells #[.slice B1 g.rows.length d1, .slice B2 g.ones.length d2, .slice B3 g.cols.length d3] 50))
  rw [hw0] at HKA
  have HKB := Lib.hid (Blk.new (w.alloc (.cells #[.slice A1 g.rows.length c1, .slice A2 g.ones.length c2, .slice A3 g.cols.length c3] 50)) 50 #[.slice B1 g.rows.length d1, .slice B2 g.ones.length d2, .slice B3 g.cols.length d3])
  simp only [World.size_alloc, hw0] at HKB
  have HW : Hid (Below w.heap.size w w0) := by rw [← hw0]; exact ((Below.refl w.heap.size w).alloc (Nat.le_refl _) _).alloc (by simp) _
  have x0 := HKA.out.cell 0
  have x1 := HKA.out.cell 1
  have x2 := HKA.out.cell 2
  have y0 := HKB.out.cell 0
  have y1 := HKB.out.cell 1
  have y2 := HKB.out.cell 2
  go_enter Tryz.func35, Tryz.ntmps35
  go_wp2_with fail
  clear hw0 x0 x1 x2 y0 y1 y2
  refine (c_laws_sameLists (HA.out.below HW.out).rows (HB.out.below HW.out).rows (by have := HS.out; unfold Gb.sz at this; omega) (fun r hr => Nat.le_trans (gb_row_le hr) HS.out)).mono ?_
  rintro e w1 ⟨rfl, hb1⟩
  replace HKA := Lib.hid (HKA.out.step hb1)
  replace HKB := Lib.hid (HKB.out.step hb1)
  replace HW := Lib.hid (below_step HW.out hb1)
  have x1 := HKA.out.cell 1
  have y1 := HKB.out.cell 1
  clear hb1
  go_wp2_with fail
  clear x1 y1
  refine (c_laws_sameInts (HA.out.below HW.out).ones (HB.out.below HW.out).ones (by have := HS.out; unfold Gb.sz at this; omega)).mono ?_
  rintro e w2 ⟨rfl, hb2⟩
  replace HKA := Lib.hid (HKA.out.step hb2)
  replace HKB := Lib.hid (HKB.out.step hb2)
  replace HW := Lib.hid (below_step HW.out hb2)
  have x2 := HKA.out.cell 2
  have y2 := HKB.out.cell 2
  clear hb2
  go_wp2_with fail
  clear x2 y2
  refine (c_laws_sameInts (HA.out.below HW.out).cols (HB.out.below HW.out).cols (by have := HS.out; unfold Gb.sz at this; omega)).mono ?_
  rintro e w3 ⟨rfl, hb3⟩
  replace HW := Lib.hid (below_step HW.out hb3)
  go_wp2
  go_ret
  exact ⟨rfl, HW.out⟩
end Go.Proofs.YtejeppjmlgfiaaaGreat
