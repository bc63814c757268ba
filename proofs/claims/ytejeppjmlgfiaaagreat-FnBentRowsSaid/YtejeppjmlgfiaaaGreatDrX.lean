/- A circuit in the making: its box, and its two slices, which the draw owns. Plain lemmas; no condition but those that each names. -/
import Derived.Test.YtejeppjmlgfiaaaGreatCirB
import Derived.Test.YtejeppjmlgfiaaaGreatGbM
import Derived.Test.YtejeppjmlgfiaaaGreatDrW
import Derived.Test.YtejeppjmlgfiaaaGreatCirF
import Derived.Test.YtejeppjmlgfiaaaGreatAppK
import Derived.Deep.RegionLaw
import Derived.Deep.DeepCutAuto
import Derived.Deep.CutBlock
namespace Go.Proofs.YtejeppjmlgfiaaaGreat
open Go.RowKit
set_option linter.unusedVariables false

/-- The box x holds the circuit c, whose slices lie apart, from block B on. -/
structure MkS (B : Nat) (w : World) (x : Nat) (t : TypeId) (c : Cir) (gv ov : Value) : Prop where
  blk : Blk w x t #[.int .i64 c.i0, .int .i64 c.i1, gv, ov]
  lo : B ≤ x
  gates : OwnG w B gv c.gs
  outs : OwnI w B ov c.outs
  gx : ∀ b, gv.ownBlock = some b → b ≠ x
  ox : ∀ b, ov.ownBlock = some b → b ≠ x
  apt : Apt gv ov
section
variable {B x g n : Nat} {t : TypeId} {w w' w1 : World} {c : Cir} {gv ov v' : Value} {cd : Value}
theorem MkS.cir (h : MkS B w x t c gv ov) : CirIn w gv ov c := ⟨h.gates.gates, h.outs.ints⟩
theorem MkS.grown (h : MkS B w x t c gv ov) (hg : w.grownBy w' (some g)) (hlt : g < B) : MkS B w' x t c gv ov :=
  ⟨h.blk.grown hg (fun e => by injection e with e; have := h.lo; omega), h.lo, h.gates.grown hg (fun b hb e => by injection e with e; have := h.gates.ge b hb; omega), h.outs.grown hg (fun b hb e => by injection e with e; have := h.outs.ge b hb; omega), h.gx, h.ox, h.apt⟩
theorem MkS.below (h : MkS B w x t c gv ov) (hb : Below w.heap.size w w') : MkS B w' x t c gv ov :=
  ⟨h.blk.step hb, h.lo, h.gates.below hb, h.outs.below hb, h.gx, h.ox, h.apt⟩
theorem MkS.mono {B' : Nat} (h : MkS B w x t c gv ov) (hB : B' ≤ B) : MkS B' w x t c gv ov :=
  ⟨h.blk, Nat.le_trans hB h.lo, own_mono h.gates hB, h.outs.mono hB, h.gx, h.ox, h.apt⟩
theorem MkS.setI0 (h : MkS B w x t c gv ov) (v : Int) : MkS B (w.setCell ⟨x, 0, none⟩ (.int .i64 v)) x t { c with i0 := v } gv ov :=
  ⟨by have := h.blk.set_ 0 (.int .i64 v); simpa using this, h.lo, own_set h.gates (p := ⟨x, 0, none⟩) (fun b hb => h.gx b hb) _, own_set h.outs (p := ⟨x, 0, none⟩) (fun b hb => h.ox b hb) _, h.gx, h.ox, h.apt⟩
theorem MkS.setI1 (h : MkS B w x t c gv ov) (v : Int) : MkS B (w.setCell ⟨x, 1, none⟩ (.int .i64 v)) x t { c with i1 := v } gv ov :=
  ⟨by have := h.blk.set_ 1 (.int .i64 v); simpa using this, h.lo, own_set h.gates (p := ⟨x, 1, none⟩) (fun b hb => h.gx b hb) _, own_set h.outs (p := ⟨x, 1, none⟩) (fun b hb => h.ox b hb) _, h.gx, h.ox, h.apt⟩
/-- The gates become others, in a slice of the maker's own. -/
theorem MkS.setG {gs : List Gt} (h : MkS B w x t c gv ov) (hg : w.grownBy w1 gv.ownBlock) (hB : B ≤ w.heap.size) (ho : OwnG w1 B v' gs) (hfr : ∀ b, v'.ownBlock = some b → gv.ownBlock = some b ∨ w.heap.size ≤ b) :
    MkS B (w1.setCell ⟨x, 2, none⟩ v') x t { c with gs := gs } v' ov := by
  have hxl := h.blk.lt
  have hx' : ∀ b, v'.ownBlock = some b → b ≠ x := fun b hb => by
    rcases hfr b hb with e | e
    · exact h.gx b e
    · omega
  have k1 := (h.blk.grown hg (fun e => h.gx x e.symm rfl)).set_ 2 v'
  refine ⟨by simpa using k1, h.lo, own_set ho (p := ⟨x, 2, none⟩) hx' _, own_set (h.outs.grown hg (fun b hb e => h.apt b e.symm hb)) (p := ⟨x, 2, none⟩) (fun b hb => h.ox b hb) _, hx', h.ox, fun b hb e => ?_⟩
  rcases hfr b hb with e1 | e1
  · exact h.apt b e1 e
  · have := h.outs.lt b e; omega
/-- The outs become others, in a slice of the maker's own. -/
theorem MkS.setO {os : List Int} (h : MkS B w x t c gv ov) (hg : w.grownBy w1 ov.ownBlock) (hB : B ≤ w.heap.size) (ho : OwnI w1 B v' os) (hfr : ∀ b, v'.ownBlock = some b → ov.ownBlock = some b ∨ w.heap.size ≤ b) :
    MkS B (w1.setCell ⟨x, 3, none⟩ v') x t { c with outs := os } gv v' := by
  have hxl := h.blk.lt
  have hx' : ∀ b, v'.ownBlock = some b → b ≠ x := fun b hb => by
    rcases hfr b hb with e | e
    · exact h.ox b e
    · omega
  have k1 := (h.blk.grown hg (fun e => h.ox x e.symm rfl)).set_ 3 v'
  refine ⟨by simpa using k1, h.lo, own_set (h.gates.grown hg (fun b hb e => h.apt b hb e.symm)) (p := ⟨x, 3, none⟩) (fun b hb => h.gx b hb) _, own_set ho (p := ⟨x, 3, none⟩) hx' _, h.gx, hx', fun b hb e => ?_⟩
  rcases hfr b e with e1 | e1
  · exact h.apt b hb e1
  · have := h.gates.lt b hb; omega
/-- A step that leaves all below B as it is. -/
theorem Cur.low {w0 : World} (h0 : CodeIn w0 cd g) (h1 : Cur w1 g cd n) (hw : w0.grownBy w1 (some g)) (hb : Below w0.heap.size w1 w') (hg : g < w0.heap.size) : Cur w' g cd n ∧ w0.grownBy w' (some g) := by
  have h2 : w0.grownBy w' (some g) := ⟨hb.os.trans hw.os, hb.tape.trans hw.tape, hb.output.trans hw.output, Nat.le_trans hw.size hb.size, fun i hi hn => (hb.block i hi).trans (hw.block i hi hn)⟩
  obtain ⟨_, a, s, h3, h4, h5, h6, h7⟩ := h1
  exact ⟨⟨h0.grown h2, a, s, h3, h4, h5, h6, (hb.block g hg).trans h7⟩, h2⟩
theorem Cur.drew (h : Cur w g cd n) : Cur w.drew g cd n := h
theorem grown_drew {r : Option Nat} (h : w.drew.grownBy w' r) : w.grownBy w' r := ⟨h.os, h.tape, h.output, h.size, h.block⟩
/-- 'append(out, x)' of one element of three cells, just laid in a block of its own. -/
theorem wp_app3 {P : Program} {ops : Array Oper} {rest : List Oper} {o : Oper} {a : Act} {Q : Exit → Act → World → Prop} {w0 : World} (hg : o.guard = none) {s y : Operand} {t : TypeId} (hop : o.op = Op.call { callee := Callee.builtin Builtin.append, args := #[s, y], argTypes := #[t, t] })
    {B : Nat} {E : TypeId} {z0 : Value} {by_ : Nat} (ht : P.underlying t = some (.slice E)) (hinfo : (P.info? E).map (fun i => (i.zero, i.size, i.bytes)) = some (some z0, 3, by_)) (hz : z0.cells.size = 3)
    {v : Value} {n : Nat} {xs : List Value} {u1 u2 u3 : Value} {c : Nat} (hown : w0.ownsRow B E 3 v n xs) (hs : a.eval s = v) (hx : a.eval y = .slice (some ⟨w0.heap.size, 0, none⟩) 1 c) (hu : ∀ u ∈ [u1, u2, u3], u.oneCell' = true)
    (h63 : n + 1 ≤ maxLen) (hn : (n + 1) * by_ ≤ 140737488355328) (hB : B ≤ w0.heap.size)
    (hK : ∀ v' w', w'.ownsRow B E 3 v' (n + 1) (xs ++ [u1, u2, u3]) → w0.grownBy w' v.ownBlock → (∀ g, v'.ownBlock = some g → v.ownBlock = some g ∨ w0.heap.size ≤ g) → wpList P ops Q rest (a.put o.dst v') w') :
    wpList P ops Q (o :: rest) a (w0.alloc (.cells #[u1, u2, u3] E)) := by
  obtain ⟨i, hi, hz0, hz1, hz2⟩ := info_parts hinfo
  refine wpList_plain hg fun K hK' => ?_
  obtain ⟨v', w', hrun, h1, h2, _, h4⟩ := run_append_own_at (P := P) (w0.alloc (.cells #[u1, u2, u3] E)) B t o.type E i z0 3 by_ ht hi hz0 hz1 hz2 hz (by omega) v n xs (hown.alloc _) ⟨w0.heap.size, 0, none⟩ 1 c [u1, u2, u3] rfl
    (by
      intro j u' hj
      rw [Addr.add_lit, Nat.zero_add, cell_of_row _ w0.heap.size j #[u1, u2, u3] E (0, 0) (heap_alloc_new w0 _)]
      simpa using hj) hu h63 hn (by simp; omega)
  unfold Oper.wp
  simp [execOp, hop, resolve, invoke, builtin, hs, hx, hrun, Result.andThen]
  refine hK' _ _ (hK v' w' h1 ?_ ?_)
  · exact ⟨h2.os, h2.tape, h2.output, Nat.le_trans (by simp) h2.size, fun k hk hne => (h2.block k (by simp; omega) hne).trans (heap_alloc_old w0 _ hk)⟩
  · intro g hg'
    rcases h4 with h4 | h4
    · exact .inl (h4.symm.trans hg')
    · rw [h4] at hg'; simp at hg'; right; omega
end
end Go.Proofs.YtejeppjmlgfiaaaGreat

/- Contracts of the reference's maker of circuits. Conditions: the circuit is small. -/
namespace Go.Proofs.YtejeppjmlgfiaaaGreat
open Go.RowKit
set_option linter.unusedVariables false
set_option maxHeartbeats 1000000
section
variable {B x : Nat} {w : World} {c : Cir} {gv ov : Value}
/-- The circuits that the draws make. -/
def SmC (c : Cir) (n m : Nat) : Prop := (0 ≤ c.i0 ∧ c.i0 ≤ 20 ∧ 0 ≤ c.i1 ∧ c.i1 ≤ 20) ∧ c.gs.length ≤ n ∧ c.outs.length ≤ m
def Cir.add (c : Cir) (k a b : Int) : Cir := { c with gs := c.gs ++ [⟨k, a, b⟩] }
/-- A step of the maker: a number, and the circuit c' in the same box. -/
def MkR (B : Nat) (w : World) (x : Nat) (c : Cir) (e : Ending) (w' : World) : Prop := ∃ (r : Int) (gv ov : Value), e = .returned (.int .i64 r) ∧ MkS B w' x 133 c gv ov ∧ Below B w w'
theorem c_spec_ciNew {a b : Int} : Calls Tryz.prog 153 #[.int .i64 a, .int .i64 b] w fun e w' => e = .returned (.pointer (some ⟨w.heap.size, 0, none⟩)) ∧ w.alloc (.cells #[.int .i64 a, .int .i64 b, .slice none 0 0, .slice none 0 0] 133) = w' := by
  go_enter Tryz.func153, Tryz.ntmps153
  go_wp2
  go_ret
  exact ⟨rfl, rfl⟩
theorem mk_new (a b : Int) (hB : B ≤ w.heap.size) : MkS B (w.alloc (.cells #[.int .i64 a, .int .i64 b, .slice none 0 0, .slice none 0 0] 133)) w.heap.size 133 ⟨a, b, [], []⟩ (.slice none 0 0) (.slice none 0 0) :=
  ⟨Blk.new _ _ _, hB, World.ownsRow_nil _ B 117 3, OwnI.nil _ _, (fun b hb => by simp [Value.ownBlock] at hb), (fun b hb => by simp [Value.ownBlock] at hb), (fun b hb => by simp [Value.ownBlock] at hb)⟩
set_option maxRecDepth 100000 in
theorem c_gate {k a b : Int} (h : MkS B w x 133 c gv ov) (hB : B ≤ w.heap.size) (hs : SmC c 200 200) :
    Calls Tryz.prog 163 #[.pointer (some ⟨x, 0, none⟩), .int .i64 k, .int .i64 a, .int .i64 b] w (MkR B w x (c.add k a b)) := by
  have H := Lib.hid h
  have x0 : w.cell? ⟨x, 0, none⟩ = some (.int .i64 c.i0) := h.blk.cell 0
  have x1 : w.cell? ⟨x, 1, none⟩ = some (.int .i64 c.i1) := h.blk.cell 1
  have x2 : w.cell? ⟨x, 2, none⟩ = some gv := h.blk.cell 2
  have x3 : w.cell? ⟨x, 3, none⟩ = some ov := h.blk.cell 3
  have hxl := h.blk.lt
  have HS := Lib.hid hs
  have hlen := hs.2.1
  clear h hs
  go_enter Tryz.func163, Tryz.ntmps163
  go_wp2_with (at_builtin; refine wp_app3 (B := B) rfl rfl Tryz.underlying23 info_gate rfl H.out.gates rfl rfl (by simp [Value.oneCell']) (by unfold maxLen; omega) (by omega) hB ?_; intro v' w9 ho hg hfr; obtain ⟨A9, c9, ev, -⟩ := own_form ho; subst ev; have HF := Lib.hid hfr; have HG := Lib.hid hg; have HO := Lib.hid ho; have K9 := Lib.hid (H.out.blk.grown hg (fun e => H.out.gx x e.symm rfl)); have y0 : w9.cell? ⟨x, 0, none⟩ = some (.int .i64 c.i0) := K9.out.cell 0; have y1 : w9.cell? ⟨x, 1, none⟩ = some (.int .i64 c.i1) := K9.out.cell 1; have y2 : w9.cell? ⟨x, 2, none⟩ = some gv := K9.out.cell 2; have y3 : w9.cell? ⟨x, 3, none⟩ = some ov := K9.out.cell 3; have f2 := K9.out.free 2; clear ho hg hfr)
  replace HO := Lib.hid (show OwnG w9 B (.slice A9 (c.gs.length + 1) c9) (c.gs ++ [⟨k, a, b⟩]) by unfold OwnG; rw [gcells_snoc]; simpa using HO.out)
  have HM := Lib.hid (H.out.setG HG.out hB HO.out HF.out)
  have HB := Lib.hid ((below_only (show w.grownBy w9 gv.ownBlock from HG.out) hB (fun b hb => H.out.gates.ge b hb)).setCell (p := ⟨x, 2, none⟩) H.out.lo (.slice A9 (c.gs.length + 1) c9))
  have hs9 : SmC (c.add k a b) 201 200 := by obtain ⟨h1, h2, h3⟩ := HS.out; exact ⟨h1, by simp [Cir.add]; omega, h3⟩
  have HS9 := Lib.hid hs9
  clear hs9 x0 x1 x2 x3
  refine (c_spec_ciWires (c := c.add k a b) (gv := .slice A9 (c.gs.length + 1) c9) (ov := ov) HM.out.cir HS9.out.1 (by have := HS9.out.2.1; omega)).mono ?_
  rintro e w2 ⟨rfl, hb2⟩
  have HM2 := Lib.hid (HM.out.below hb2)
  have HB2 := Lib.hid (HB.out.trans (hb2.mono (Nat.le_trans hB HB.out.size)))
  have hwb : -1000 ≤ (c.add k a b).wires ∧ (c.add k a b).wires ≤ 1000 := by obtain ⟨⟨h1, h2, h3, h4⟩, h5, h6⟩ := HS9.out; unfold Cir.wires Cir.ins; omega
  generalize (c.add k a b).wires = W at *
  clear hb2 y0 y1 y2 y3 f2
  go_wp2
  go_ret
  exact ⟨_, _, _, rfl, HM2.out, HB2.out⟩
theorem c_mk_xor {a b : Int} (h : MkS B w x 133 c gv ov) (hB : B ≤ w.heap.size) (hs : SmC c 200 200) :
    Calls Tryz.prog 156 #[.pointer (some ⟨x, 0, none⟩), .int .i64 a, .int .i64 b] w (MkR B w x (c.add 0 a b)) := by
  have H := Lib.hid h
  clear h
  go_enter Tryz.func156, Tryz.ntmps156
  go_wp2_with fail
  refine (c_gate H.out hB hs).mono ?_
  rintro e w2 ⟨r, gv2, ov2, rfl, hm, hb⟩
  have HM := Lib.hid hm
  have HB := Lib.hid hb
  clear hm hb
  go_wp2
  go_ret
  exact ⟨_, _, _, rfl, HM.out, HB.out⟩
theorem c_mk_and {a b : Int} (h : MkS B w x 133 c gv ov) (hB : B ≤ w.heap.size) (hs : SmC c 200 200) :
    Calls Tryz.prog 157 #[.pointer (some ⟨x, 0, none⟩), .int .i64 a, .int .i64 b] w (MkR B w x (c.add 1 a b)) := by
  have H := Lib.hid h
  clear h
  go_enter Tryz.func157, Tryz.ntmps157
  go_wp2_with fail
  refine (c_gate H.out hB hs).mono ?_
  rintro e w2 ⟨r, gv2, ov2, rfl, hm, hb⟩
  have HM := Lib.hid hm
  have HB := Lib.hid hb
  clear hm hb
  go_wp2
  go_ret
  exact ⟨_, _, _, rfl, HM.out, HB.out⟩
theorem c_mk_not {a : Int} (h : MkS B w x 133 c gv ov) (hB : B ≤ w.heap.size) (hs : SmC c 200 200) :
    Calls Tryz.prog 155 #[.pointer (some ⟨x, 0, none⟩), .int .i64 a] w (MkR B w x (c.add 2 a 0)) := by
  have H := Lib.hid h
  clear h
  go_enter Tryz.func155, Tryz.ntmps155
  go_wp2_with fail
  refine (c_gate H.out hB hs).mono ?_
  rintro e w2 ⟨r, gv2, ov2, rfl, hm, hb⟩
  have HM := Lib.hid hm
  have HB := Lib.hid hb
  clear hm hb
  go_wp2
  go_ret
  exact ⟨_, _, _, rfl, HM.out, HB.out⟩
theorem c_mk_one (h : MkS B w x 133 c gv ov) (hB : B ≤ w.heap.size) (hs : SmC c 200 200) :
    Calls Tryz.prog 154 #[.pointer (some ⟨x, 0, none⟩)] w (MkR B w x (c.add 3 0 0)) := by
  have H := Lib.hid h
  clear h
  go_enter Tryz.func154, Tryz.ntmps154
  go_wp2_with fail
  refine (c_gate H.out hB hs).mono ?_
  rintro e w2 ⟨r, gv2, ov2, rfl, hm, hb⟩
  have HM := Lib.hid hm
  have HB := Lib.hid hb
  clear hm hb
  go_wp2
  go_ret
  exact ⟨_, _, _, rfl, HM.out, HB.out⟩
end
end Go.Proofs.YtejeppjmlgfiaaaGreat

/- The contract of the draw of a valid circuit: some small circuit in new memory comes back. Condition: the cursor's bound. -/
namespace Go.Proofs.YtejeppjmlgfiaaaGreat
open Go.RowKit
set_option linter.unusedVariables false
set_option maxHeartbeats 4000000
section
variable {w : World} {g n : Nat} {cd : Value}
theorem c_spec_l1Least {a b : Int} {w : World} : Calls Tryz.prog 123 #[.int .i64 a, .int .i64 b] w fun e w' => e = .returned (.int .i64 (if a < b then a else b)) ∧ w = w' := by
  by_cases h : a < b
  · rw [if_pos h]
    go_enter Tryz.func123, Tryz.ntmps123
    go_wp2
    go_ret; exact ⟨rfl, rfl⟩
  · rw [if_neg h]
    go_enter Tryz.func123, Tryz.ntmps123
    go_wp2
    go_ret; exact ⟨rfl, rfl⟩
/-- A circuit is drawn, in new memory. -/
def DrewC (w : World) (g : Nat) (cd : Value) (n : Nat) (P : Cir → Prop) (e : Ending) (w' : World) : Prop := ∃ c gv ov, e = .returned (cirV c gv ov) ∧ P c ∧ OwnG w' w.heap.size gv c.gs ∧ OwnI w' w.heap.size ov c.outs ∧ Apt gv ov ∧ Cur w' g cd n ∧ w.grownBy w' (some g)
/-- In the making: the circuit's box, the cursor, and the box of the result. -/
structure MkT (w : World) (g : Nat) (cd : Value) (n x : Nat) (t : TypeId) (c : Cir) (gv ov : Value) (wr : World) : Prop where
  ms : MkS (w.heap.size + 1) wr x t c gv ov
  cur : Cur wr g cd n
  size : w.heap.size + 1 ≤ wr.heap.size
  grown : w.grownBy wr (some g)
  res : Blk wr w.heap.size 26 #[.int .i64 0, .int .i64 0, .slice none 0 0, .slice none 0 0]
section
variable {t : TypeId} {x m : Nat} {wr w' : World} {c c' : Cir} {gv ov gv' ov' : Value}
theorem MkT.draw (h : MkT w g cd n x t c gv ov wr) (hgl : g < w.heap.size) (hg : wr.grownBy w' (some g)) (hc : Cur w' g cd m) : MkT w g cd m x t c gv ov w' :=
  ⟨h.ms.grown hg (by omega), hc, Nat.le_trans h.size hg.size, only_trans h.grown hg, h.res.grown hg (by simp; omega)⟩
theorem MkT.below (h : MkT w g cd n x t c gv ov wr) (hb : Below wr.heap.size wr w') : MkT w g cd n x t c gv ov w' :=
  ⟨h.ms.below hb, h.cur.below hb, Nat.le_trans h.size hb.size, only_trans h.grown (only_below hb _), h.res.step hb⟩
theorem MkT.make (h : MkT w g cd n x t c gv ov wr) (h0 : CodeIn w cd g) (hgl : g < w.heap.size) (hm : MkS (w.heap.size + 1) w' x t c' gv' ov') (hb : Below (w.heap.size + 1) wr w') : MkT w g cd n x t c' gv' ov' w' := by
  have h1 := Cur.low h0 h.cur h.grown (hb.mono (Nat.le_succ _)) hgl
  exact ⟨hm, h1.1, Nat.le_trans h.size hb.size, h1.2, h.res.below hb (Nat.lt_succ_self _)⟩
theorem MkT.more (h : MkT w g cd n x t c gv ov wr) (hm : n ≤ m) : MkT w g cd m x t c gv ov wr := ⟨h.ms, h.cur.mono hm, h.size, h.grown, h.res⟩
theorem MkT.far (h : MkT w g cd n x t c gv ov wr) (hg : wr.grownBy w' ov.ownBlock) : Blk w' x t #[.int .i64 c.i0, .int .i64 c.i1, gv, ov] := h.ms.blk.grown hg (fun e => h.ms.ox x e.symm rfl)
theorem MkT.putO {v' : Value} {y : Int} (h : MkT w g cd n x t c gv ov wr) (h0 : CodeIn w cd g) (hgl : g < w.heap.size) (hg : wr.grownBy w' ov.ownBlock) (ho : w'.ownsRow (w.heap.size + 1) 3 1 v' (c.outs.length + 1) (c.outs.map (Value.int .i64) ++ [.int .i64 y])) (hfr : ∀ g, v'.ownBlock = some g → ov.ownBlock = some g ∨ wr.heap.size ≤ g) :
    MkT w g cd n x t { c with outs := c.outs ++ [y] } gv v' (w'.setCell ⟨x, 3, none⟩ v') :=
  h.make h0 hgl (h.ms.setO hg h.size (OwnI.snoc ho) hfr) ((below_only hg h.size (fun b hb => h.ms.outs.ge b hb)).setCell (p := ⟨x, 3, none⟩) h.ms.lo v')
/-- The circuit goes into the box of the result. -/
theorem MkT.done (h : MkT w g cd n x t c gv ov wr) (h0 : CodeIn w cd g) (hgl : g < w.heap.size) :
    let w9 := (((wr.setCell ⟨w.heap.size, 0, none⟩ (.int .i64 c.i0)).setCell ⟨w.heap.size, 1, none⟩ (.int .i64 c.i1)).setCell ⟨w.heap.size, 2, none⟩ gv).setCell ⟨w.heap.size, 3, none⟩ ov
    OwnG w9 w.heap.size gv c.gs ∧ OwnI w9 w.heap.size ov c.outs ∧ Apt gv ov ∧ Cur w9 g cd n ∧ w.grownBy w9 (some g) := by
  intro w9
  have hb : Below w.heap.size wr w9 := ((((Below.refl _ _).setCell (p := ⟨w.heap.size, 0, none⟩) (Nat.le_refl _) _).setCell (p := ⟨w.heap.size, 1, none⟩) (Nat.le_refl _) _).setCell (p := ⟨w.heap.size, 2, none⟩) (Nat.le_refl _) _).setCell (p := ⟨w.heap.size, 3, none⟩) (Nat.le_refl _) _
  have h1 := Cur.low h0 h.cur h.grown hb hgl
  have hg : ∀ b, gv.ownBlock = some b → b ≠ w.heap.size := fun b hb => by have := h.ms.gates.ge b hb; omega
  have ho : ∀ b, ov.ownBlock = some b → b ≠ w.heap.size := fun b hb => by have := h.ms.outs.ge b hb; omega
  refine ⟨?_, ?_, h.ms.apt, h1.1, h1.2⟩
  · exact own_set (p := ⟨w.heap.size, 3, none⟩) (own_set (p := ⟨w.heap.size, 2, none⟩) (own_set (p := ⟨w.heap.size, 1, none⟩) (own_set (p := ⟨w.heap.size, 0, none⟩) (own_mono h.ms.gates (Nat.le_succ _)) hg _) hg _) hg _) hg _
  · exact own_set (p := ⟨w.heap.size, 3, none⟩) (own_set (p := ⟨w.heap.size, 2, none⟩) (own_set (p := ⟨w.heap.size, 1, none⟩) (own_set (p := ⟨w.heap.size, 0, none⟩) (own_mono h.ms.outs (Nat.le_succ _)) ho _) ho _) ho _) ho _
end
/-- Some circuit in the making. -/
def MkC (w : World) (g : Nat) (cd : Value) (n a b x : Nat) (t : TypeId) (wr : World) : Prop := ∃ c gv ov, SmC c a b ∧ MkT w g cd n x t c gv ov wr
theorem SmC.add {c : Cir} {a a' b : Nat} (h : SmC c a b) (ha : a + 1 ≤ a') (k p q : Int) : SmC (c.add k p q) a' b := ⟨h.1, by have := h.2.1; simp [Cir.add]; omega, h.2.2⟩
theorem SmC.le {c : Cir} {a a' b b' : Nat} (h : SmC c a b) (ha : a ≤ a') (hb : b ≤ b') : SmC c a' b' := ⟨h.1, Nat.le_trans h.2.1 ha, Nat.le_trans h.2.2 hb⟩
set_option maxRecDepth 100000 in
theorem c_circuit (h : Cur w g cd n) (hn : n ≤ 10000000) : Calls Tryz.prog 120 #[.pointer (some ⟨g, 0, none⟩)] w (DrewC w g cd (n + 200) fun c => SmC c 8 3) := by
  have hgl := h.lt
  have HCD := Lib.hid h.1
  have HR := Lib.hid (Blk.new w 26 #[.int .i64 0, .int .i64 0, .slice none 0 0, .slice none 0 0])
  have h1 := h.below ((Below.refl _ _).alloc (Nat.le_refl _) (.cells #[.int .i64 0, .int .i64 0, .slice none 0 0, .slice none 0 0] 26))
  have HG0 := Lib.hid (only_below ((Below.refl w.heap.size w).alloc (Nat.le_refl _) (.cells #[.int .i64 0, .int .i64 0, .slice none 0 0, .slice none 0 0] 26)) (some g))
  clear h
  go_enter Tryz.func120, Tryz.ntmps120
  go_wp2_with fail
  refine (c_pick h1 (by omega) (by omega)).mono ?_
  rintro e w1 ⟨v, rfl, ⟨i0, rfl, hi0, -, hi1⟩, hc1, hg1⟩
  have HG1 := Lib.hid (only_trans HG0.out hg1)
  have HR1 := Lib.hid (HR.out.grown hg1 (by simp; omega))
  have hz1 : w.heap.size + 1 ≤ w1.heap.size := by have := hg1.size; simpa using this
  clear h1 HG0 HR hg1
  go_wp2_with fail
  refine (c_pick hc1 (by omega) (by omega)).mono ?_
  rintro e w2 ⟨v, rfl, ⟨j0, rfl, hj0, -, hj1⟩, hc2, hg2⟩
  have HG2 := Lib.hid (only_trans HG1.out hg2)
  have HR2 := Lib.hid (HR1.out.grown hg2 (by simp; omega))
  have hz2 : w.heap.size + 1 ≤ w2.heap.size := Nat.le_trans hz1 hg2.size
  clear hc1 HG1 HR1 hg2 hz1
  go_wp2_with fail
  refine (c_spec_ciNew).mono ?_
  rintro e w3' ⟨rfl, hw3⟩
  obtain ⟨w3, hw3'⟩ : ∃ W, w3' = W := ⟨_, rfl⟩
  rw [hw3'] at hw3 ⊢
  have HM3 := Lib.hid (show MkS (w.heap.size + 1) w3 w2.heap.size 133 ⟨i0, j0, [], []⟩ (.slice none 0 0) (.slice none 0 0) by rw [← hw3]; exact mk_new i0 j0 hz2)
  have hB3 : Below w2.heap.size w2 w3 := by rw [← hw3]; exact (Below.refl _ _).alloc (Nat.le_refl _) _
  have HC3 := Lib.hid (hc2.below hB3)
  have HG3 := Lib.hid (only_trans HG2.out (only_below hB3 (some g)))
  have HR3 := Lib.hid (HR2.out.step hB3)
  have hz3 : w.heap.size + 1 ≤ w3.heap.size := Nat.le_trans hz2 hB3.size
  generalize w2.heap.size = x at *
  clear hw3 hw3' hc2 HG2 HR2 hB3 hz2
  go_wp2_with fail
  refine (c_pick HC3.out (by omega) (by omega)).mono ?_
  rintro e w4 ⟨v, rfl, ⟨k0, rfl, hk0, -, hk1⟩, hc4, hg4⟩
  obtain ⟨K, rfl⟩ := Int.eq_ofNat_of_zero_le hk0
  have hK8 : K ≤ 8 := by omega
  have HX := Lib.hid (show MkC w g cd (n + 10 + 10 * (8 - K)) (8 - K) 0 x 133 w4 from ⟨⟨i0, j0, [], []⟩, _, _, ⟨⟨hi0, by show i0 ≤ 20; omega, hj0, by show j0 ≤ 20; omega⟩, by simp, by simp⟩, (MkT.mk HM3.out HC3.out hz3 HG3.out HR3.out).draw hgl hg4 (hc4.mono (by omega))⟩)
  clear HM3 HC3 HG3 HR3 hz3 hc4 hg4
  go_wp2
  go_loopw [4] (fun i wr => ∃ k : Nat, k ≤ K ∧ i = .int .i64 (k : Int) ∧ Hid (MkC w g cd (n + 10 + 10 * (8 - k)) (8 - k) 0 x 133 wr)) (fun i _ => (intOf i).toNat)
  case atStart => exact ⟨K, Nat.le_refl _, rfl, HX⟩
  case round =>
    obtain ⟨k, hk, rfl, HY⟩ := hrel
    obtain ⟨wa, rfl⟩ : ∃ W, W = wr := ⟨wr, rfl⟩
    clear HX
    obtain ⟨c, gv, ov, hs, hm⟩ := HY.out
    have HS := Lib.hid hs
    have HM := Lib.hid hm
    have x0 : wa.cell? ⟨x, 0, none⟩ = some (.int .i64 c.i0) := hm.ms.blk.cell 0
    have x1 : wa.cell? ⟨x, 1, none⟩ = some (.int .i64 c.i1) := hm.ms.blk.cell 1
    have x2 : wa.cell? ⟨x, 2, none⟩ = some gv := hm.ms.blk.cell 2
    have x3 : wa.cell? ⟨x, 3, none⟩ = some ov := hm.ms.blk.cell 3
    have hwb : 0 ≤ c.wires ∧ c.wires ≤ 100 := by obtain ⟨⟨h1, h2, h3, h4⟩, h5, h6⟩ := hs; unfold Cir.wires Cir.ins; omega
    have hgl8 : c.gs.length ≤ 8 := by have := hs.2.1; omega
    have hcc := Lib.hid (fun (W : World) (hb : CirIn W gv ov c) => c_spec_ciWires hb hs.1 (by omega))
    clear hs hm HY
    by_cases hpos : 0 < k
    · have hkk : (0 : Int) < (k : Int) := by omega
      have HSM := Lib.hid (fun p q r => SmC.add HS.out (show 8 - k + 1 ≤ 8 - (k - 1) by omega) p q r)
      have hss := Lib.hid (HS.out.le (show 8 - k ≤ 200 by omega) (show 0 ≤ 200 by omega))
      go_upto_block 1 with fail
      go_cut [] (fun wx => Hid (MkC w g cd (n + 10 + 10 * (8 - (k - 1))) (8 - (k - 1)) 0 x 133 wx))
      case first =>
        go_wp2_with fail
        refine (hcc.out _ HM.out.ms.cir).mono ?_
        rintro e w5 ⟨rfl, hb5⟩
        have HM5 := Lib.hid (HM.out.below hb5)
        generalize c.wires = W at *
        clear hb5 HM hcc x0 x1 x2 x3
        go_wp2_with fail
        refine (c_pick HM5.out.cur (by omega) (by omega)).mono ?_
        rintro e w6 ⟨v, rfl, ⟨q, rfl, hq0, -, hq1⟩, hc6, hg6⟩
        have HM6 := Lib.hid (HM5.out.draw hgl hg6 hc6)
        clear HM5 hc6 hg6
        by_cases hW : W = 0
        · subst hW
          go_wp2_with fail
          refine (c_mk_one HM6.out.ms HM6.out.size hss.out).mono ?_
          rintro e w7 ⟨r, gv7, ov7, rfl, hm7, hb7⟩
          have HX := Lib.hid (HM6.out.make HCD.out hgl hm7 hb7)
          clear hm7 hb7 HM6
          go_wp2
          go_meet
          exact Lib.hid ⟨_, _, _, HSM.out _ _ _, HX.out.more (by omega)⟩
        · by_cases hq3 : q = 3
          · subst hq3
            go_wp2_with fail
            refine (c_one HM6.out.cur (by omega) (by omega)).mono ?_
            rintro e w7 ⟨v, rfl, ⟨b, rfl⟩, hc7, hg7⟩
            have HM7 := Lib.hid (HM6.out.draw hgl hg7 hc7)
            clear HM6 hc7 hg7
            cases b
            · go_wp2_with fail
              refine (c_pick HM7.out.cur (by omega) (by omega)).mono ?_
              rintro e y1 ⟨v, rfl, ⟨r1, rfl, hr10, -, hr11⟩, hd1, hh1⟩
              have HY1 := Lib.hid (HM7.out.draw hgl hh1 hd1)
              clear HM7 hd1 hh1
              go_wp2_with fail
              refine (c_pick HY1.out.cur (by omega) (by omega)).mono ?_
              rintro e y2 ⟨v, rfl, ⟨r2, rfl, hr20, -, hr21⟩, hd2, hh2⟩
              have HY2 := Lib.hid (HY1.out.draw hgl hh2 hd2)
              clear HY1 hd2 hh2
              go_wp2_with fail
              refine (c_mk_and HY2.out.ms HY2.out.size hss.out).mono ?_
              rintro e y3 ⟨r, gv7, ov7, rfl, hm7, hb7⟩
              have HX := Lib.hid (HY2.out.make HCD.out hgl hm7 hb7)
              clear hm7 hb7 HY2
              go_wp2
              go_meet
              exact Lib.hid ⟨_, _, _, HSM.out _ _ _, HX.out.more (by omega)⟩
            · go_wp2_with fail
              refine (c_mk_one HM7.out.ms HM7.out.size hss.out).mono ?_
              rintro e w8 ⟨r, gv7, ov7, rfl, hm7, hb7⟩
              have HX := Lib.hid (HM7.out.make HCD.out hgl hm7 hb7)
              clear hm7 hb7 HM7
              go_wp2
              go_meet
              exact Lib.hid ⟨_, _, _, HSM.out _ _ _, HX.out.more (by omega)⟩
          · by_cases hq2 : q = 2
            · subst hq2
              go_wp2_with fail
              refine (c_pick HM6.out.cur (by omega) (by omega)).mono ?_
              rintro e w7 ⟨v, rfl, ⟨r1, rfl, hr10, -, hr11⟩, hc7, hg7⟩
              have HM7 := Lib.hid (HM6.out.draw hgl hg7 hc7)
              clear HM6 hc7 hg7
              go_wp2_with fail
              refine (c_mk_not HM7.out.ms HM7.out.size hss.out).mono ?_
              rintro e w8 ⟨r, gv7, ov7, rfl, hm7, hb7⟩
              have HX := Lib.hid (HM7.out.make HCD.out hgl hm7 hb7)
              clear hm7 hb7 HM7
              go_wp2
              go_meet
              exact Lib.hid ⟨_, _, _, HSM.out _ _ _, HX.out.more (by omega)⟩
            · by_cases hqx : q = 0
              · subst hqx
                go_wp2_with fail
                refine (c_pick HM6.out.cur (by omega) (by omega)).mono ?_
                rintro e y1 ⟨v, rfl, ⟨r1, rfl, hr10, -, hr11⟩, hd1, hh1⟩
                have HY1 := Lib.hid (HM6.out.draw hgl hh1 hd1)
                clear HM6 hd1 hh1
                go_wp2_with fail
                refine (c_pick HY1.out.cur (by omega) (by omega)).mono ?_
                rintro e y2 ⟨v, rfl, ⟨r2, rfl, hr20, -, hr21⟩, hd2, hh2⟩
                have HY2 := Lib.hid (HY1.out.draw hgl hh2 hd2)
                clear HY1 hd2 hh2
                go_wp2_with fail
                refine (c_mk_xor HY2.out.ms HY2.out.size hss.out).mono ?_
                rintro e y3 ⟨r, gv7, ov7, rfl, hm7, hb7⟩
                have HX := Lib.hid (HY2.out.make HCD.out hgl hm7 hb7)
                clear hm7 hb7 HY2
                go_wp2
                go_meet
                exact Lib.hid ⟨_, _, _, HSM.out _ _ _, HX.out.more (by omega)⟩
              · go_wp2_with fail
                refine (c_pick HM6.out.cur (by omega) (by omega)).mono ?_
                rintro e y1 ⟨v, rfl, ⟨r1, rfl, hr10, -, hr11⟩, hd1, hh1⟩
                have HY1 := Lib.hid (HM6.out.draw hgl hh1 hd1)
                clear HM6 hd1 hh1
                go_wp2_with fail
                refine (c_pick HY1.out.cur (by omega) (by omega)).mono ?_
                rintro e y2 ⟨v, rfl, ⟨r2, rfl, hr20, -, hr21⟩, hd2, hh2⟩
                have HY2 := Lib.hid (HY1.out.draw hgl hh2 hd2)
                clear HY1 hd2 hh2
                go_wp2_with fail
                refine (c_mk_and HY2.out.ms HY2.out.size hss.out).mono ?_
                rintro e y3 ⟨r, gv7, ov7, rfl, hm7, hb7⟩
                have HX := Lib.hid (HY2.out.make HCD.out hgl hm7 hb7)
                clear hm7 hb7 HY2
                go_wp2
                go_meet
                exact Lib.hid ⟨_, _, _, HSM.out _ _ _, HX.out.more (by omega)⟩
      case rest =>
        obtain ⟨wm, hwm⟩ : ∃ W, wc = W := ⟨_, rfl⟩
        rw [hwm] at hcut ⊢
        clear hwm
        have HX := Lib.hid hcut.out
        clear hcut
        go_wp2
        go_roundw
        case rel => exact ⟨k - 1, by omega, by go_num, HX.out⟩
        case measure => simp [intOf]; omega
    · obtain rfl : k = 0 := by omega
      go_wp2_with fail
      refine (hcc.out _ HM.out.ms.cir).mono ?_
      rintro e w5 ⟨rfl, hb5⟩
      have HM5 := Lib.hid (HM.out.below hb5)
      generalize c.wires = W at *
      clear hb5 HM hcc x0 x1 x2 x3
      by_cases hW : 0 < W
      · obtain ⟨m4, hm4⟩ : ∃ m, (if W < 4 then W else 4) = m := ⟨_, rfl⟩
        have hm4b : m4 ≤ 4 := by rw [← hm4]; split <;> omega
        have HL4 := Lib.hid (fun V : World => c_spec_l1Least (a := W) (b := 4) (w := V))
        rw [hm4] at HL4
        clear hm4
        go_wp2_with fail
        refine (c_pick HM5.out.cur (by omega) (by omega)).mono ?_
        rintro e w6 ⟨v, rfl, ⟨q, rfl, hq0, -, hq1⟩, hc6, hg6⟩
        obtain ⟨Q, hQ⟩ : ∃ Q : Nat, 1 + q = (Q : Int) := ⟨(1 + q).toNat, by omega⟩
        have hQ3 : Q ≤ 3 := by omega
        have HX := Lib.hid (show MkC w g cd (n + 100 + 10 * (3 - Q)) 8 (3 - Q) x 133 w6 from ⟨c, gv, ov, HS.out.le (by omega) (Nat.zero_le _), (HM5.out.draw hgl hg6 hc6).more (by omega)⟩)
        clear HM5 hc6 hg6 HS
        go_wp2
        go_loopw [8] (fun i wr => ∃ k : Nat, k ≤ Q ∧ i = .int .i64 (k : Int) ∧ Hid (MkC w g cd (n + 100 + 10 * (3 - k)) 8 (3 - k) x 133 wr)) (fun i _ => (intOf i).toNat)
        case atStart => exact ⟨Q, Nat.le_refl _, rfl, HX⟩
        case round =>
          obtain ⟨k, hk, rfl, HY⟩ := hrel
          obtain ⟨wb, rfl⟩ : ∃ W, W = wr := ⟨wr, rfl⟩
          clear HX
          obtain ⟨d, hv, qv, hs, hm⟩ := HY.out
          have HS := Lib.hid hs
          have HM := Lib.hid hm
          by_cases hpos : 0 < k
          · have hkk : (0 : Int) < (k : Int) := by omega
            have hol := hs.2.2
            have x3 : wb.cell? ⟨x, 3, none⟩ = some qv := hm.ms.blk.cell 3
            have HPK := Lib.hid (fun (V : World) (h : Cur V g cd (n + 100 + 10 * (3 - k))) => c_pick (w := V) (m := m4) h (by omega) (by omega))
            have HA := Lib.hid (And.intro (show d.outs.length + 1 ≤ maxLen by unfold maxLen; omega) (show (d.outs.length + 1) * 8 ≤ 140737488355328 by omega))
            have HS2 := Lib.hid (fun y : Int => (show SmC { d with outs := d.outs ++ [y] } 8 (3 - (k - 1)) from ⟨HS.out.1, HS.out.2.1, by simp; omega⟩))
            clear hs hm HY
            go_wp2_with fail
            go_region_law (first
              | (refine step_app1 (B := w.heap.size + 1) (by rfl) (by rfl) Tryz.underlying24 info_int rfl (HMA.out _).ms.outs (cell_new w6 _ _) (by rfl) (by rfl) rfl HA.out.1 HA.out.2 (HMA.out _).size ?_; intro v' w9 ho hg hfr; obtain ⟨A9, c9, ev, -⟩ := own_form ho; subst ev; have x3c := ((HMA.out _).far hg).cell 3; have f3c := ((HMA.out _).far hg).free 3; have HX := Lib.hid ((HMA.out _).putO HCD.out hgl hg ho hfr); clear ho hg hfr)
              | (go_simp; go_at_call 123; refine (HL4.out _).mono ?_; rintro e w' ⟨rfl, rfl⟩)
              | (go_simp; go_at_call 55; (with_reducible refine (HPK.out _ HM.out.cur.drew).mono ?_); rintro e w6 ⟨v, rfl, ⟨t2, rfl, hs0, -, hs1⟩, hc6, hg6⟩; replace hg6 := grown_drew hg6; have HM6 := Lib.hid (HM.out.draw hgl hg6 hc6); have HMA := Lib.hid (fun o => HM6.out.below ((Below.refl _ _).alloc (Nat.le_refl _) o)); have x3b : ∀ o, (w6.alloc o).cell? ⟨x, 3, none⟩ = some qv := (fun o => (HMA.out o).ms.blk.cell 3); have x3d : w6.cell? ⟨x, 3, none⟩ = some qv := HM6.out.ms.blk.cell 3; clear hc6 hg6))
            all_goals
              go_wp2
              go_roundw
              case rel => exact ⟨k - 1, by omega, by go_num, Lib.hid ⟨_, _, _, HS2.out _, HX.out.more (by omega)⟩⟩
              case measure => simp [intOf]; omega
          · obtain rfl : k = 0 := by omega
            clear hs hm HY
            obtain ⟨Ag, cga, eg, -⟩ := own_form HM.out.ms.gates
            obtain ⟨Ao, coa, eo, -⟩ := own_form HM.out.ms.outs
            subst eg eo
            have x0 := HM.out.ms.blk.cell 0
            have x1 := HM.out.ms.blk.cell 1
            have x2 := HM.out.ms.blk.cell 2
            have x3 := HM.out.ms.blk.cell 3
            have r0 := HM.out.res.cell 0
            have r1 := HM.out.res.cell 1
            have r2 := HM.out.res.cell 2
            have r3 := HM.out.res.cell 3
            have f0 := HM.out.res.free 0
            have f1 := HM.out.res.free 1
            have f2 := HM.out.res.free 2
            have f3 := HM.out.res.free 3
            go_wp2
            have HF := (((HM.out.res.set_ 0 (.int .i64 d.i0)).set_ 1 (.int .i64 d.i1)).set_ 2 (.slice Ag d.gs.length cga)).set_ 3 (.slice Ao d.outs.length coa)
            have k0 := HF.cell 0
            have k1 := HF.cell 1
            have k2 := HF.cell 2
            have k3 := HF.cell 3
            have HD := HM.out.done HCD.out hgl
            refine bodyPost_ret (v := cirV d (.slice Ag d.gs.length cga) (.slice Ao d.outs.length coa)) (by simp [results, Tryz.results120, go_sem, k0, k1, k2, k3, cirV]) rfl ⟨d, _, _, rfl, HS.out, HD.1, HD.2.1, HD.2.2.1, HD.2.2.2.1.mono (by omega), HD.2.2.2.2⟩
      · have HS3 := Lib.hid (HS.out.le (show 8 - 0 ≤ 8 by omega) (show 0 ≤ 3 by omega))
        have HM := HM5
        obtain ⟨Ag, cga, eg, -⟩ := own_form HM.out.ms.gates
        obtain ⟨Ao, coa, eo, -⟩ := own_form HM.out.ms.outs
        subst eg eo
        have x0 := HM.out.ms.blk.cell 0
        have x1 := HM.out.ms.blk.cell 1
        have x2 := HM.out.ms.blk.cell 2
        have x3 := HM.out.ms.blk.cell 3
        have r0 := HM.out.res.cell 0
        have r1 := HM.out.res.cell 1
        have r2 := HM.out.res.cell 2
        have r3 := HM.out.res.cell 3
        have f0 := HM.out.res.free 0
        have f1 := HM.out.res.free 1
        have f2 := HM.out.res.free 2
        have f3 := HM.out.res.free 3
        go_wp2
        have HF := (((HM.out.res.set_ 0 (.int .i64 c.i0)).set_ 1 (.int .i64 c.i1)).set_ 2 (.slice Ag c.gs.length cga)).set_ 3 (.slice Ao c.outs.length coa)
        have k0 := HF.cell 0
        have k1 := HF.cell 1
        have k2 := HF.cell 2
        have k3 := HF.cell 3
        have HD := HM.out.done HCD.out hgl
        refine bodyPost_ret (v := cirV c (.slice Ag c.gs.length cga) (.slice Ao c.outs.length coa)) (by simp [results, Tryz.results120, go_sem, k0, k1, k2, k3, cirV]) rfl ⟨c, _, _, rfl, HS3.out, HD.1, HD.2.1, HD.2.2.1, HD.2.2.2.1.mono (by omega), HD.2.2.2.2⟩
end
end Go.Proofs.YtejeppjmlgfiaaaGreat

/- A gate of a circuit in the making is written. Plain lemmas; no condition but those that each names. -/
namespace Go.Proofs.YtejeppjmlgfiaaaGreat
open Go.RowKit
set_option linter.unusedVariables false

theorem gcells_set0 : ∀ (gs : List Gt) (j : Nat) (g : Gt) (v : Int), gs[j]? = some g → (gcells gs).set (j * 3) (.int .i64 v) = gcells (gs.set j ⟨v, g.a, g.b⟩)
  | [], j, g, v, h => by simp at h
  | y :: gs, 0, g, v, h => by
    simp at h; subst h
    simp [gcells, Gt.cells]
  | y :: gs, j + 1, g, v, h => by
    have ih := gcells_set0 gs j g v (by simpa using h)
    have e : gcells (y :: gs) = y.cells ++ gcells gs := by simp [gcells]
    have hl : y.cells.length = 3 := rfl
    rw [e, List.set_append_right _ _ (by rw [hl]; omega), hl, show (j + 1) * 3 - 3 = j * 3 by omega, ih]
    simp [gcells]
theorem gcells_set1 : ∀ (gs : List Gt) (j : Nat) (g : Gt) (v : Int), gs[j]? = some g → (gcells gs).set (j * 3 + 1) (.int .i64 v) = gcells (gs.set j ⟨g.k, v, g.b⟩)
  | [], j, g, v, h => by simp at h
  | y :: gs, 0, g, v, h => by
    simp at h; subst h
    simp [gcells, Gt.cells]
  | y :: gs, j + 1, g, v, h => by
    have ih := gcells_set1 gs j g v (by simpa using h)
    have e : gcells (y :: gs) = y.cells ++ gcells gs := by simp [gcells]
    have hl : y.cells.length = 3 := rfl
    rw [e, List.set_append_right _ _ (by rw [hl]; omega), hl, show (j + 1) * 3 + 1 - 3 = j * 3 + 1 by omega, ih]
    simp [gcells]
section
variable {B x g n : Nat} {t : TypeId} {w w' wr : World} {c : Cir} {gv ov : Value} {cd : Value}
theorem MkT.gcell (h : MkT w g cd n x t c gv ov wr) {j : Nat} (hj : j < c.gs.length) : ∃ bg cg q, gv = .slice (some ⟨bg, 0, none⟩) c.gs.length cg ∧ c.gs[j]? = some q ∧ c.gs.length ≤ cg ∧
    (∃ u, wr.cell? ⟨bg, j * 3, none⟩ = some u) ∧ (∃ u, wr.cell? ⟨bg, j * 3 + 1, none⟩ = some u) ∧ wr.frozen? ⟨bg, j * 3, none⟩ = false ∧ wr.frozen? ⟨bg, j * 3 + 1, none⟩ = false := by
  obtain ⟨bg, cg, rfl, -, -, h3, -⟩ := own_pos h.ms.gates (show 0 < c.gs.length by omega)
  have hl := gcells_length c.gs
  refine ⟨bg, cg, _, rfl, List.getElem?_eq_getElem hj, h3, ?_, ?_, World.ownsRow.frozenAt h.ms.gates _, World.ownsRow.frozenAt h.ms.gates _⟩
  · rw [World.ownsRow.cellAt h.ms.gates (j * 3) (by omega)]; exact ⟨_, List.getElem?_eq_getElem (by omega)⟩
  · rw [World.ownsRow.cellAt h.ms.gates (j * 3 + 1) (by omega)]; exact ⟨_, List.getElem?_eq_getElem (by omega)⟩
theorem MkT.putG {bg m cg i : Nat} {v : Int} {gs : List Gt} (h : MkT w g cd n x t c (.slice (some ⟨bg, 0, none⟩) m cg) ov wr) (h0 : CodeIn w cd g) (hgl : g < w.heap.size) (hs : (gcells c.gs).set i (.int .i64 v) = gcells gs) (hl : gs.length = c.gs.length) :
    MkT w g cd n x t { c with gs := gs } (.slice (some ⟨bg, 0, none⟩) m cg) ov (wr.setCell ⟨bg, i, none⟩ (.int .i64 v)) := by
  have hbx : bg ≠ x := h.ms.gx bg rfl
  have hlo : w.heap.size + 1 ≤ bg := h.ms.gates.ge bg rfl
  have hm : m = c.gs.length := by
    obtain ⟨A, c', e, -⟩ := own_form h.ms.gates
    injection e
  subst hm
  have h1 := (World.ownsRow.stored h.ms.gates i (.int .i64 v)).1
  rw [hs] at h1
  refine h.make h0 hgl ⟨h.ms.blk.far (p := ⟨bg, i, none⟩) (fun e => hbx e.symm) _, h.ms.lo, ?_, own_set h.ms.outs (p := ⟨bg, i, none⟩) (fun b hb e => h.ms.apt bg rfl (by rw [hb, e])) _, h.ms.gx, h.ms.ox, h.ms.apt⟩ ((Below.refl _ _).setCell (p := ⟨bg, i, none⟩) hlo _)
  unfold OwnG
  rw [hl]; exact h1
theorem MkT.setI0 (h : MkT w g cd n x t c gv ov wr) (h0 : CodeIn w cd g) (hgl : g < w.heap.size) (v : Int) : MkT w g cd n x t { c with i0 := v } gv ov (wr.setCell ⟨x, 0, none⟩ (.int .i64 v)) :=
  h.make h0 hgl (h.ms.setI0 v) ((Below.refl _ _).setCell (p := ⟨x, 0, none⟩) h.ms.lo _)
theorem MkT.setI1 (h : MkT w g cd n x t c gv ov wr) (h0 : CodeIn w cd g) (hgl : g < w.heap.size) (v : Int) : MkT w g cd n x t { c with i1 := v } gv ov (wr.setCell ⟨x, 1, none⟩ (.int .i64 v)) :=
  h.make h0 hgl (h.ms.setI1 v) ((Below.refl _ _).setCell (p := ⟨x, 1, none⟩) h.ms.lo _)
/-- Other outs, in a new slice. -/
theorem MkT.newO {v' : Value} {os : List Int} (h : MkT w g cd n x t c gv ov wr) (h0 : CodeIn w cd g) (hgl : g < w.heap.size) (hb : Below wr.heap.size wr w') (ho : OwnI w' wr.heap.size v' os) : MkT w g cd n x t { c with outs := os } gv v' (w'.setCell ⟨x, 3, none⟩ v') := by
  refine h.make h0 hgl (h.ms.setO (only_below hb _) h.size (ho.mono h.size) (fun b hb => .inr (ho.ge b hb))) ((hb.mono h.size).setCell (p := ⟨x, 3, none⟩) h.ms.lo v')
theorem MkT.farG (h : MkT w g cd n x t c gv ov wr) (hg : wr.grownBy w' gv.ownBlock) : Blk w' x t #[.int .i64 c.i0, .int .i64 c.i1, gv, ov] := h.ms.blk.grown hg (fun e => h.ms.gx x e.symm rfl)
theorem MkT.addG {v' : Value} {k a b : Int} (h : MkT w g cd n x t c gv ov wr) (h0 : CodeIn w cd g) (hgl : g < w.heap.size) (hg : wr.grownBy w' gv.ownBlock) (ho : w'.ownsRow (w.heap.size + 1) 117 3 v' (c.gs.length + 1) (gcells c.gs ++ [.int .i64 k, .int .i64 a, .int .i64 b])) (hfr : ∀ g, v'.ownBlock = some g → gv.ownBlock = some g ∨ wr.heap.size ≤ g) :
    MkT w g cd n x t (c.add k a b) v' ov (w'.setCell ⟨x, 2, none⟩ v') :=
  h.make h0 hgl (h.ms.setG hg h.size (show OwnG w' _ v' (c.gs ++ [⟨k, a, b⟩]) by unfold OwnG; rw [gcells_snoc]; simpa using ho) hfr) ((below_only hg h.size (fun b hb => h.ms.gates.ge b hb)).setCell (p := ⟨x, 2, none⟩) h.ms.lo v')
theorem CirIn.drew (h : CirIn w gv ov c) : CirIn w.drew gv ov c := h.below (Below.refl _ _).drew
theorem MkT.drew (h : MkT w g cd n x t c gv ov wr) : MkT w g cd n x t c gv ov wr.drew := h.below (Below.refl _ _).drew
theorem MkT.alloc (h : MkT w g cd n x t c gv ov wr) (o : Obj) : MkT w g cd n x t c gv ov (wr.alloc o) := h.below ((Below.refl _ _).alloc (Nat.le_refl _) o)
theorem MkT.belowd (h : MkT w g cd n x t c gv ov wr) (hb : Below wr.drew.heap.size wr.drew w') : MkT w g cd n x t c gv ov w' := h.below (below_step (Below.refl _ _).drew hb)
theorem MkT.cir (h : MkT w g cd n x t c gv ov wr) : CirIn wr gv ov c := h.ms.cir
theorem MkT.four (h : MkT w g cd n x t c gv ov wr) : wr.cell? ⟨x, 0, none⟩ = some (.int .i64 c.i0) ∧ wr.cell? ⟨x, 1, none⟩ = some (.int .i64 c.i1) ∧ wr.cell? ⟨x, 2, none⟩ = some gv ∧ wr.cell? ⟨x, 3, none⟩ = some ov := ⟨h.ms.blk.cell 0, h.ms.blk.cell 1, h.ms.blk.cell 2, h.ms.blk.cell 3⟩
theorem MkT.c_pick {m : Int} (h : MkT w g cd n x t c gv ov wr) (hgl : g < w.heap.size) (hn : n ≤ 1000000000) (hm : m ≤ 9223372036854775807) :
    Calls Tryz.prog 55 #[.pointer (some ⟨g, 0, none⟩), .int .i64 m] wr fun e w' => ∃ r : Int, e = .returned (.int .i64 r) ∧ 0 ≤ r ∧ (r < m ∨ m ≤ 0) ∧ MkT w g cd (n + 2) x t c gv ov w' ∧ wr.grownBy w' (some g) :=
  (Go.Proofs.YtejeppjmlgfiaaaGreat.c_pick h.cur (by omega) hm).mono fun e w' ⟨v, e1, ⟨r, e2, h0, _, h1⟩, hc, hg⟩ => ⟨r, by rw [e1, e2], h0, h1, h.draw hgl hg hc, hg⟩
theorem MkT.c_among {lv : Value} {l : List Int} (h : MkT w g cd n x t c gv ov wr) (hgl : g < w.heap.size) (hn : n ≤ 1000000000) (hl : Ints wr lv l) (hl0 : 0 < l.length) (hl1 : l.length ≤ 1000) (hne : ∀ b, lv.ownBlock = some b → b ≠ g) :
    Calls Tryz.prog 54 #[.pointer (some ⟨g, 0, none⟩), lv] wr fun e w' => ∃ r : Int, e = .returned (.int .i64 r) ∧ r ∈ l ∧ MkT w g cd (n + 2) x t c gv ov w' :=
  (Go.Proofs.YtejeppjmlgfiaaaGreat.c_among h.cur (by omega) hl hl0 hl1 hne).mono fun e w' ⟨v, e1, ⟨r, e2, h0⟩, hc, hg⟩ => ⟨r, by rw [e1, e2], h0, h.draw hgl hg hc⟩
theorem lit3 (W : World) (z0 z1 z2 : Int) : Ints (W.alloc (.cells #[.int .i64 z0, .int .i64 z1, .int .i64 z2] 3)) (.slice (some ⟨W.heap.size, 0, none⟩) 3 3) [z0, z1, z2] := ints_lit W [z0, z1, z2] #[.int .i64 z0, .int .i64 z1, .int .i64 z2] rfl (by simp)
theorem MkT.c_among3 {b : Nat} {z0 z1 z2 : Int} (h : MkT w g cd n x t c gv ov wr) (hgl : g < w.heap.size) (hn : n ≤ 1000000000) (hl : Ints wr (.slice (some ⟨b, 0, none⟩) 3 3) [z0, z1, z2]) (hb : g < b) :
    Calls Tryz.prog 54 #[.pointer (some ⟨g, 0, none⟩), .slice (some ⟨b, 0, none⟩) 3 3] wr fun e w' => ∃ r : Int, e = .returned (.int .i64 r) ∧ r ∈ [z0, z1, z2] ∧ MkT w g cd (n + 2) x t c gv ov w' :=
  h.c_among hgl hn hl (by simp) (by simp) (fun b' hb' => by simp [Value.ownBlock] at hb'; omega)
end
end Go.Proofs.YtejeppjmlgfiaaaGreat
