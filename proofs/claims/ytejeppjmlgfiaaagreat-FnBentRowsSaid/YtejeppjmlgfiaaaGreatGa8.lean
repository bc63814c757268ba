/- Contract of the closure that keeps the rows that are used: it appends to a list behind a pointer. Conditions: the labels and the row are valid; the list's own block, the pointer's block and the row's lie apart. -/
import Derived.Test.YtejeppjmlgfiaaaGreatWirI
import Derived.Test.YtejeppjmlgfiaaaGreatWirL
import Derived.Test.YtejeppjmlgfiaaaGreatSta
import Derived.Test.YtejeppjmlgfiaaaGreatWirU
import Derived.Test.YtejeppjmlgfiaaaGreatGa3
import Derived.Test.YtejeppjmlgfiaaaGreatGa2
import Derived.Test.YtejeppjmlgfiaaaGreatInpL
import Derived.Test.YtejeppjmlgfiaaaGreatTabS
import Derived.Test.YtejeppjmlgfiaaaGreatDig3
import Derived.Test.YtejeppjmlgfiaaaGreatWir
import Derived.Test.YtejeppjmlgfiaaaGreatLabX
import Derived.Test.YtejeppjmlgfiaaaGreatLabG
import Derived.Test.YtejeppjmlgfiaaaGreatEv
import Derived.Test.YtejeppjmlgfiaaaGreatGa1
namespace Go.Proofs.YtejeppjmlgfiaaaGreat
open Go.RowKit
set_option linter.unusedVariables false

/-- The block q holds a list, owned from block B on, whose own block is not q. -/
structure Kep (w : World) (q B : Nat) (u : Value) (l : List Int) : Prop where
  blk : Blk w q 24 #[u]
  own : OwnI w B u l
  ne : ∀ g, u.ownBlock = some g → g ≠ q
theorem Kep.below {w w' : World} {q B : Nat} {u : Value} {l : List Int} (h : Kep w q B u l) (hb : Below w.heap.size w w') : Kep w' q B u l := ⟨h.blk.step hb, h.own.below hb, h.ne⟩
theorem Kep.grown {w w' : World} {q B : Nat} {u : Value} {l : List Int} {row : Option Nat} (h : Kep w q B u l) (hb : w.grownBy w' row) (hq : some q ≠ row) (hu : ∀ g, u.ownBlock = some g → some g ≠ row) : Kep w' q B u l := ⟨h.blk.grown hb hq, h.own.grown hb hu, h.ne⟩
/-- The value that stands for a block. -/
abbrev bq (q : Nat) : Value := .slice (some ⟨q, 0, none⟩) 0 0
set_option maxHeartbeats 2000000 in
theorem c_OpenedRows1 {n x y : Int} {q B C : Nat} {u vr : Value} {r l : List Int} {w : World} (hk : Kep w q B u l) (hl : l.length ≤ 300) (hB : B ≤ w.heap.size) (hn : 0 ≤ n ∧ n ≤ 1000000) (hx : 0 ≤ x ∧ x ≤ 65535) (hy : 0 ≤ y ∧ y ≤ 65535)
    (hr : OwnI w C vr r) (hqr : ∀ g, vr.ownBlock = some g → g ≠ q) (hur : Apt u vr) (hrl : (r.length : Int) = 3) (hrb : ∀ z ∈ r, 0 ≤ z ∧ z ≤ 65535) :
    Calls Tryz.prog 112 #[.int .i64 n, .int .i64 x, .int .i64 y, vr, .pointer (some ⟨q, 0, none⟩)] w fun e w' => e = .returned (.int .i64 (openM n x y r)) ∧ ∃ u', Kep w' q B u' (l ++ [x % 2 * 2 + y % 2]) ∧ Only [bq q, u] w w' ∧ (∀ g, u'.ownBlock = some g → u.ownBlock = some g ∨ w.heap.size ≤ g) := by
  have x0 : w.cell? ⟨q, 0, none⟩ = some u := hk.blk.cell 0
  have hax := bits_and_one hx.1 (by omega)
  have hay := bits_and_one hy.1 (by omega)
  have hx2 : x % 2 = 0 ∨ x % 2 = 1 := by omega
  have hy2 : y % 2 = 0 ∨ y % 2 = 1 := by omega
  have HN := Lib.hid (show 2 * (x % 2) + y % 2 = x % 2 * 2 + y % 2 by omega)
  have hw1 : IntKind.i64.wrap (2 * (x % 2)) = 2 * (x % 2) := IntWalk.i64_in _ (by omega)
  have hw2 : IntKind.i64.wrap (2 * (x % 2) + y % 2) = 2 * (x % 2) + y % 2 := IntWalk.i64_in _ (by omega)
  have HK := Lib.hid hk
  have HR := Lib.hid hr
  have HRL := Lib.hid hrl
  have hql := hk.blk.lt
  obtain ⟨A, cu, rfl, -⟩ := hk.own.ints
  obtain ⟨Ar, cr, rfl, -⟩ := hr.ints
  clear hk hr hrl
  go_enter Tryz.func112, Tryz.ntmps112
  go_wp2_with (at_builtin; refine wp_app1 (B := B) rfl rfl Tryz.underlying24 info_int rfl HK.out.own rfl rfl rfl (by unfold maxLen; omega) (by omega) hB ?_; intro v' w2 ho hg hfr; obtain ⟨A9, c9, rfl, -⟩ := (OwnI.snoc ho).ints; have HK2 := Lib.hid (HK.out.blk.grown hg (fun e => HK.out.ne q e.symm rfl)); have y0 : w2.cell? ⟨q, 0, none⟩ = some _ := HK2.out.cell 0; have yf := HK2.out.free 0)
  have hln : (l ++ [2 * (x % 2) + y % 2]).length = l.length + 1 := by simp
  rw [hln] at ho hfr
  clear hln
  obtain ⟨v', hv'⟩ : ∃ V, Value.slice A9 (l.length + 1) c9 = V := ⟨_, rfl⟩
  rw [hv'] at ho hfr ⊢
  have hne : ∀ g, v'.ownBlock = some g → g ≠ q := fun g e e2 => by
    rcases hfr g e with h | h
    · exact HK.out.ne g h e2
    · omega
  have HV := Lib.hid ((HR.out.grown hg (fun g e e2 => hur g e2.symm e)).far (p := ⟨q, 0, none⟩) hqr v')
  have HO := Lib.hid ((OwnI.snoc ho).far (p := ⟨q, 0, none⟩) hne v')
  have HKS := Lib.hid (show Blk (w2.setCell ⟨q, 0, none⟩ v') q 24 #[v'] by have := HK2.out.set_ 0 v'; simpa using this)
  refine (c_impl_openedAnd hn hx hy HV.out.ints HRL.out hrb).mono ?_
  rintro e w4 ⟨rfl, hb⟩
  go_wp2
  go_ret
  refine ⟨rfl, v', ⟨HKS.out.step hb, by have := HO.out.below hb; rw [HN.out] at this; exact this, hne⟩, ?_, fun g e => hfr g e⟩
  exact ((Only.ofGrown (F := [bq q, .slice A l.length cu]) hg (by simp)).trans ((only_set w2 q 0 v').sub (by simp))).trans (Only.ofBelow hb (Nat.le_refl _))

theorem Only.cell {F : List Value} {w w' : World} (h : Only F w w') {p : Addr} (hp : p.block < w.heap.size) (hF : ∀ u ∈ F, u.ownBlock ≠ some p.block) : w'.cell? p = w.cell? p := by
  unfold World.cell?; rw [h.2 p.block hp hF]
theorem bq_own {q g : Nat} (h : (bq q).ownBlock = some g) : g = q := by simp [Value.ownBlock] at h; exact h.symm
theorem Blk.keptBy {w w' : World} {F : List Value} {b : Nat} {t : TypeId} {cs : Array Value} (h : Blk w b t cs) (ho : Only F w w') (hF : ∀ u ∈ F, u.ownBlock ≠ some b) : Blk w' b t cs := (ho.2 b h.lt hF).trans h
/-- The state of the walk: the labels o and, behind the block q, the rows u that are used; the tables are as they were. -/
structure Opn (wB wr : World) (q C n : Nat) (T : Gb) (rv nv cv : Value) (vs : List Value) (o u : Value) (l us : List Int) : Prop where
  low : Below wB.heap.size wB wr
  own : OwnI wr (n + 2) o l
  kep : Kep wr q wB.heap.size u us
  lo : ∀ g, u.ownBlock = some g → g < C ∨ n + 2 ≤ g
  apt : Apt o u
  tab : OwnGb wr C rv nv cv vs T
  tbd : ∀ x ∈ nv :: cv :: rv :: vs, ∀ b, x.ownBlock = some b → C ≤ b ∧ b < n
  box : Blk wr (n + 1) 50 #[rv, nv, cv]
  qC : wB.heap.size ≤ q ∧ q < C ∧ C ≤ n ∧ n + 2 ≤ wr.heap.size
section
variable {wB wr w2 : World} {q C n : Nat} {T : Gb} {rv nv cv o u o' u' : Value} {vs : List Value} {l us l' us' : List Int}
theorem Opn.step (h : Opn wB wr q C n T rv nv cv vs o u l us) (hb : Below wr.heap.size wr w2) : Opn wB w2 q C n T rv nv cv vs o u l us :=
  ⟨below_step h.low hb, h.own.below hb, h.kep.below hb, h.lo, h.apt, h.tab.below hb, h.tbd, h.box.step hb, h.qC.1, h.qC.2.1, h.qC.2.2.1, Nat.le_trans h.qC.2.2.2 hb.size⟩
theorem Opn.app (h : Opn wB wr q C n T rv nv cv vs o u l us) (ho : OwnI w2 (n + 2) o' l') (hg : wr.grownBy w2 o.ownBlock) (hfr : ∀ g, o'.ownBlock = some g → o.ownBlock = some g ∨ wr.heap.size ≤ g) : Opn wB w2 q C n T rv nv cv vs o' u l' us := by
  have hq := h.qC
  have hge := h.own.ge
  have hlw : ∀ v : Value, (∀ g, v.ownBlock = some g → g < n + 2) → Apt o v := fun v hv g e e' => by have := hge g e; have := hv g e'; omega
  have hOn : Only [o] wr w2 := Only.ofGrown hg (by simp)
  refine ⟨hOn.below (by have := h.low.size; exact this) (fun x hx g e => by simp at hx; subst hx; have := hge g e; omega) |> fun k => h.low.trans k, ho, h.kep.grown hg (fun e => by have := hge q e.symm; omega) (fun g e e' => h.apt g e'.symm e), h.lo, ?_, ?_, h.tbd, h.box.grown hg (fun e => by have := hge _ e.symm; omega), hq.1, hq.2.1, hq.2.2.1, Nat.le_trans hq.2.2.2 hg.size⟩
  · intro g e e'
    rcases hfr g e with h1 | h1
    · exact h.apt g h1 e'
    · have := h.kep.own.lt g e'; omega
  · refine h.tab.only hOn fun x hx u' hu' => ?_
    simp at hx; subst hx
    exact hlw u' fun g e => by have := h.tbd u' hu' g e; omega
theorem Opn.put (h : Opn wB wr q C n T rv nv cv vs o u l us) (hk : Kep w2 q wB.heap.size u' us') (ho : Only [bq q, u] wr w2) (hfr : ∀ g, u'.ownBlock = some g → u.ownBlock = some g ∨ wr.heap.size ≤ g) : Opn wB w2 q C n T rv nv cv vs o u' l us' := by
  have hq := h.qC
  refine ⟨h.low.trans (ho.below h.low.size fun x hx g e => ?_), h.own.only ho fun x hx => ?_, hk, fun g e => ?_, fun g e e' => ?_, h.tab.only ho fun x hx u' hu' => ?_, h.tbd, h.box.keptBy ho fun x hx e => ?_, hq.1, hq.2.1, hq.2.2.1, Nat.le_trans hq.2.2.2 ho.size⟩
  · simp only [List.mem_cons, List.not_mem_nil, or_false] at hx
    rcases hx with rfl | rfl
    · have := bq_own e; omega
    · exact h.kep.own.ge g e
  · simp only [List.mem_cons, List.not_mem_nil, or_false] at hx
    rcases hx with rfl | rfl
    · intro g e e'; have := bq_own e; have := h.own.ge g e'; omega
    · exact h.apt.symm
  · rcases hfr g e with h1 | h1
    · exact h.lo g h1
    · omega
  · rcases hfr g e' with h1 | h1
    · exact h.apt g e h1
    · have := h.own.lt g e; omega
  · simp only [List.mem_cons, List.not_mem_nil, or_false] at hx
    have ht := h.tbd u' hu'
    rcases hx with rfl | rfl
    · intro g e e'; have := bq_own e; have := ht g e'; omega
    · intro g e e'; have := ht g e'; have := h.lo g e; omega
  · simp only [List.mem_cons, List.not_mem_nil, or_false] at hx
    rcases hx with rfl | rfl
    · have := bq_own e; omega
    · have := h.lo _ e; omega
end
set_option maxRecDepth 100000 in
set_option maxHeartbeats 4000000 in
theorem c_labels_kept {c : Cir} {T : Gb} {gv ov rv nv cv vi : Value} {inp : List Int} {wB w : World} {vs : List Value} {u0 : Value} {q C : Nat} (hw : Below wB.heap.size wB w) (h : CirIn wB gv ov c) (hc : cirB c = true) (hown : OwnGb w C rv nv cv vs T) (hkep : Kep w q wB.heap.size u0 []) (hu0 : ∀ g, u0.ownBlock = some g → g < C) (hqC : wB.heap.size ≤ q ∧ q < C ∧ C ≤ w.heap.size) (ht : tabB 3 c T = true)
    (hi : Ints wB vi inp) (hil : (inp.length : Int) = c.ins) (hib : ∀ x ∈ inp, 0 ≤ x ∧ x ≤ 65535) :
    Calls Tryz.prog 87 #[cirV c gv ov, gbV rv nv cv, vi, .func (.func 112) #[] #[.pointer (some ⟨q, 0, none⟩)]] w fun e w' => ∃ v u, e = .returned v ∧ Kep w' q wB.heap.size u (usedM openM T inp c.gs).2 ∧ Below wB.heap.size wB w' := by
  have hbd := cirB_bd hc
  have h2 := hown.gbIn
  have HOWN := Lib.hid hown
  have HKEP := Lib.hid hkep
  have HTBD := Lib.hid hown.bd
  have HWW := Lib.hid hw
  clear hkep hw
  have hgl : c.gs.length ≤ 300 := hbd.2.2.2.2.1
  have hins : 0 ≤ c.ins ∧ c.ins ≤ 40 := by unfold Cir.ins; omega
  have htt := tabB_of ht
  have HT := Lib.hid htt
  have HGB := Lib.hid (cirB_gates hc)
  have HKB := Lib.hid (cirB_kinds hc)
  have HBD := Lib.hid (wires_bd (F := openM) (n := 0) (T := T) hib htt.2.2.2.1 (fun r hr => (htt.2.1 r hr).2) (fun w x y r hx hr => openM_bd hr))
  have HI := Lib.hid hi
  obtain ⟨hg, ho⟩ := h
  obtain ⟨A, cg, rfl, hlg, hmg, hrg⟩ := hg
  obtain ⟨A', co, rfl, -⟩ := ho
  obtain ⟨hr, ho, hcc⟩ := h2
  obtain ⟨A1, c1, rfl, hl1, hm1, hat⟩ := hr.form
  obtain ⟨A2, c2, rfl, hl2, hm2, hro⟩ := ho
  obtain ⟨A3, c3, rfl, -⟩ := hcc
  have HRG := Lib.hid hrg
  have hrl : (T.rows.length : Int) = cnt 1 c.gs := htt.1
  have hol : (T.ones.length : Int) = cnt 3 c.gs := htt.2.2.1
  have HRL := Lib.hid hrl
  have HOL := Lib.hid hol
  have hcb1 := cnt_bd 1 c.gs
  have hcb3 := cnt_bd 3 c.gs
  have hrn : T.rows.length ≤ 300 := by omega
  have hon : T.ones.length ≤ 300 := by omega
  unfold maxLen at hmg hm1 hm2
  clear hc hr hbd hat hrg htt ht hib hro hrl hol hcb1 hcb3
  unfold cirV gbV
  obtain ⟨w0, hw0⟩ : ∃ W, (w.alloc (.cells #[.int .i64 c.i0, .int .i64 c.i1, .slice A c.gs.length cg, .slice A' c.outs.length co] 26)).alloc (.cells #[.slice A1 T.rows.length c1, .slice A2 T.ones.length c2, .slice A3 T.cols.length c3] 50) = W := ⟨_, rfl⟩
  have HKC := Lib.hid ((Blk.new w 26 #[.int .i64 c.i0, .int .i64 c.i1, .slice A c.gs.length cg, .slice A' c.outs.length co]).alloc (.cells #[.slice A1 T.rows.length c1, .slice A2 T.ones.length c2, .slice A3 T.cols.length c3] 50))
  rw [hw0] at HKC
  have HKG := Lib.hid (Blk.new (w.alloc (.cells #[.int .i64 c.i0, .int .i64 c.i1, .slice A c.gs.length cg, .slice A' c.outs.length co] 26)) 50 #[.slice A1 T.rows.length c1, .slice A2 T.ones.length c2, .slice A3 T.cols.length c3])
  simp only [World.size_alloc, hw0] at HKG
  have hz0 : w.heap.size + 2 ≤ w0.heap.size := by rw [← hw0]; simp
  have HB : Hid (Below w.heap.size w w0) := by rw [← hw0]; exact ((Below.refl w.heap.size w).alloc (Nat.le_refl _) _).alloc (by simp) _
  go_enter Tryz.func87, Tryz.ntmps87
  go_wp2_with fail
  clear hw0
  refine (c_slices_Clone (HI.out.below (HWW.out.trans (HB.out.mono HWW.out.size))) (by omega)).mono ?_
  rintro e w1 ⟨u, rfl, hu, hb⟩
  have HB1 := Lib.hid (below_step HB.out hb)
  replace HKG := Lib.hid (HKG.out.step hb)
  have HO1 := Lib.hid (show Opn wB w1 q C w.heap.size T (.slice A1 T.rows.length c1) (.slice A2 T.ones.length c2) (.slice A3 T.cols.length c3) vs u u0 inp [] from
    ⟨HWW.out.trans (HB1.out.mono HWW.out.size), hu.mono hz0, HKEP.out.below HB1.out, fun g e => Or.inl (hu0 g e), fun g e e' => by have h1 := hu.ge g e; have h3 := hu0 g e'; omega, HOWN.out.below HB1.out, HTBD.out, HKG.out, hqC.1, hqC.2.1, hqC.2.2, Nat.le_trans hz0 hb.size⟩)
  have hz1 : w.heap.size + 2 ≤ w1.heap.size := Nat.le_trans hz0 hb.size
  replace HKC := Lib.hid (HKC.out.step hb)
  have x2 : w1.cell? ⟨w.heap.size, 2, none⟩ = some (.slice A c.gs.length cg) := HKC.out.cell 2
  clear hb hu HKC HKG HB HKEP HOWN
  go_wp2
  clear x2
  go_loopw [9, 10, 11, 20] (fun o a n i wr => ∃ (k : Nat) (u : Value), k ≤ c.gs.length ∧ i = .int .i64 k ∧ a = .int .i64 ((wiresM openM T inp (c.gs.take k)).2.1 : Nat) ∧ n = .int .i64 ((wiresM openM T inp (c.gs.take k)).2.2 : Nat) ∧ Hid (Opn wB wr q C w.heap.size T (.slice A1 T.rows.length c1) (.slice A2 T.ones.length c2) (.slice A3 T.cols.length c3) vs o u (wiresM openM T inp (c.gs.take k)).1 (usedM openM T inp (c.gs.take k)).2)) (fun _ _ _ i _ => c.gs.length - (intOf i).toNat)
  case atStart => exact ⟨0, _, Nat.zero_le _, rfl, rfl, rfl, HO1⟩
  case round =>
    obtain ⟨k, u, hk, rfl, rfl, rfl, HP⟩ := hrel
    by_cases hlt : k < c.gs.length
    · obtain ⟨b, o, g, rfl, hbl, hgk, c0, c1', c2'⟩ := (HRG.out.below HP.out.low).gate_at hlt
      have hgb := gate_ab (gatesB_at _ _ k g HGB.out hgk)
      obtain ⟨i1, i2, i3⟩ := wires_inv (F := openM) (T := T) (inp := inp) HKB.out k (by omega)
      have HS := Lib.hid (wires_snoc (F := openM) (T := T) (inp := inp) hgk)
      have HSU := Lib.hid (used_snoc (F := openM) (T := T) (inp := inp) hgk)
      have hul := used_len (F := openM) (T := T) (inp := inp) HKB.out k (by omega)
      have huf := used_fst openM T inp (c.gs.take k)
      have hbs := HBD.out (c.gs.take k)
      have hlt1 := fun (hj : g.k = 1) => cnt_lt hgk hj
      have hlt3 := fun (hj : g.k = 3) => cnt_lt hgk hj
      generalize hs : wiresM openM T inp (c.gs.take k) = s at *
      generalize hv : usedM openM T inp (c.gs.take k) = v at *
      clear hs hv hgk
      obtain ⟨v1, ul⟩ := v
      simp only at huf hul HP
      subst huf
      obtain ⟨gk, ga, gb⟩ := g
      obtain ⟨l, na, no⟩ := v1
      simp only at c0 c1' c2' hgb i1 i2 i3 hbs hlt1 hlt3 HP
      obtain ⟨Au, cu, rfl, hlu, hmu, hru⟩ := own_form HP.out.own
      unfold maxLen at hmu
      have hnu : ul.length = na := by omega
      have hcl1 := cnt_le 1 c.gs k
      have hcb1 := cnt_bd 1 c.gs
      have hul300 : ul.length ≤ 300 := by omega
      clear hcl1 hcb1
      have hll : (l.length : Int) = c.ins + k := by omega
      have hl340 : l.length ≤ 340 := by omega
      have HLL := Lib.hid hll
      have HBS := Lib.hid hbs
      have HRU := Lib.hid hru
      obtain ⟨wb, hwb⟩ : ∃ W, wr.alloc (.cells #[.int .i64 gk, .int .i64 ga, .int .i64 gb] 117) = W := ⟨_, rfl⟩
      have hbb : Below wr.heap.size wr wb := by rw [← hwb]; exact (Below.refl _ _).alloc (Nat.le_refl _) _
      have HBX : Hid (Blk wb wr.heap.size 117 #[.int .i64 gk, .int .i64 ga, .int .i64 gb]) := by rw [← hwb]; exact Blk.new _ _ _
      have y0 : wb.cell? ⟨wr.heap.size, 0, none⟩ = some (.int .i64 gk) := HBX.out.cell 0
      have y1 : wb.cell? ⟨wr.heap.size, 1, none⟩ = some (.int .i64 ga) := HBX.out.cell 1
      have y2 : wb.cell? ⟨wr.heap.size, 2, none⟩ = some (.int .i64 gb) := HBX.out.cell 2
      have HBB := Lib.hid hbb
      have HP2 := Lib.hid (HP.out.step hbb)
      have hsz : w.heap.size + 2 ≤ wb.heap.size := HP2.out.qC.2.2.2
      have hrw : wr.heap.size < wb.heap.size := by rw [← hwb]; simp
      clear hbb hll hbs hru hlu hmu hul
      have hkk : gk = 0 ∨ gk = 1 ∨ gk = 2 ∨ gk = 3 := by omega
      rcases hkk with rfl | rfl | rfl | rfl
      · -- exclusive-or
        have hab := hgb.2.1 (Or.inl rfl)
        obtain ⟨ja, rfl, hja, hea⟩ := elt_at (l := l) hab.1 (by have := HLL.out; omega)
        obtain ⟨jb, rfl, hjb, heb⟩ := elt_at (l := l) hab.2.2.1 (by have := HLL.out; omega)
        obtain ⟨bo, oo, xa, rfl, hbo, hxa, hca⟩ := (HRU.out.below HBB.out).int_at hja
        obtain ⟨bo2, oo2, xb, e2, hbo2, hxb, hcb⟩ := (HRU.out.below HBB.out).int_at hjb
        injection e2 with e2; injection e2 with e2 e2'; subst e2 e2'
        have exa := hea.symm.trans hxa
        have exb := heb.symm.trans hxb
        injection exa with exa
        injection exb with exb
        have ba := elt_bd (k := (ja : Int)) HBS.out
        have bb := elt_bd (k := (jb : Int)) HBS.out
        rw [exa] at ba
        rw [exb] at bb
        have hxor := bits_xor ba.1 bb.1 (by omega) (by omega)
        have HW := Lib.hid (show wireStep openM T (l, na, no) ⟨0, (ja : Int), (jb : Int)⟩ = (l ++ [xorI xa xb], na, no) by unfold wireStep; simp only [if_true]; rw [exa, exb])
        have HWU := Lib.hid (show (uStep openM T ((l, na, no), ul) ⟨0, (ja : Int), (jb : Int)⟩).2 = ul by unfold uStep; simp)
        clear hgb hlt1 hlt3 hea heb hxa hxb exa exb hab i1 i2 i3
        have hja0 : (0 : Int) ≤ (ja : Int) := Int.natCast_nonneg _
        have hja1 : (ja : Int) < (l.length : Int) := by omega
        have hjb0 : (0 : Int) ≤ (jb : Int) := Int.natCast_nonneg _
        have hjb1 : (jb : Int) < (l.length : Int) := by omega
        go_wp2_with fail
        go_region_held3 (fun w' => w'.cell? ⟨wr.heap.size, 1, none⟩ = some (.int .i64 (ja : Int)) ∧ w'.cell? ⟨wr.heap.size, 2, none⟩ = some (.int .i64 (jb : Int)) ∧ w'.cell? ⟨bo, oo + ja, none⟩ = some (.int .i64 xa) ∧ w'.cell? ⟨bo, oo + jb, none⟩ = some (.int .i64 xb)) (exact ⟨y1, y2, hca, hcb⟩) (fail)
        go_wp2_with (at_builtin; refine wp_app1 (B := w.heap.size + 2) rfl rfl Tryz.underlying24 info_int rfl (own_drew HP2.out.own) rfl rfl rfl (by unfold maxLen; omega) (by omega) hsz ?_; intro v' w9 ho hg hfr)
        have HPn := Lib.hid ((HP2.out.step (Below.refl _ _).drew).app (OwnI.snoc ho) hg hfr)
        go_roundw
        case rel => exact ⟨k + 1, _, by omega, by go_num, by rw [HS.out, HW.out], by rw [HS.out, HW.out], by rw [HS.out, HW.out, HSU.out, HWU.out]; exact HPn⟩
        case measure => simp [intOf]; omega
      · -- and
        have hab := hgb.2.1 (Or.inr rfl)
        obtain ⟨ja, rfl, hja, hea⟩ := elt_at (l := l) hab.1 (by have := HLL.out; omega)
        obtain ⟨jb, rfl, hjb, heb⟩ := elt_at (l := l) hab.2.2.1 (by have := HLL.out; omega)
        obtain ⟨bo, oo, xa, rfl, hbo, hxa, hca⟩ := (HRU.out.below HBB.out).int_at hja
        obtain ⟨bo2, oo2, xb, e2, hbo2, hxb, hcb⟩ := (HRU.out.below HBB.out).int_at hjb
        injection e2 with e2; injection e2 with e2 e2'; subst e2 e2'
        have exa := hea.symm.trans hxa
        have exb := heb.symm.trans hxb
        injection exa with exa
        injection exb with exb
        have ba := elt_bd (k := (ja : Int)) HBS.out
        have bb := elt_bd (k := (jb : Int)) HBS.out
        rw [exa] at ba
        rw [exb] at bb
        have hna : na < T.rows.length := by have h1 := hlt1 rfl; have h2 := HRL.out; omega
        obtain ⟨br, cr0, vr, r, Ar, cr, er, -, -, hvr, hrr, evr, hcr2, hor⟩ := HP2.out.tab.rows.at_ hna
        injection er with er1 er2 er3
        subst er1 evr
        have hrt := HT.out.2.1 r (List.mem_of_getElem? hrr)
        have HRT := Lib.hid hrt
        have HOR := Lib.hid hor
        have HW := Lib.hid (show wireStep openM T (l, na, no) ⟨1, (ja : Int), (jb : Int)⟩ = (l ++ [openM (l.length : Int) xa xb r], na + 1, no) by unfold wireStep; simp only [Int.reduceEq, if_false]; rw [exa, exb, getD_at hrr])
        have HWU := Lib.hid (show (uStep openM T ((l, na, no), ul) ⟨1, (ja : Int), (jb : Int)⟩).2 = ul ++ [xa % 2 * 2 + xb % 2] by unfold uStep; simp only [if_true]; rw [exa, exb])
        have g1 : wb.cell? ⟨w.heap.size + 1, 0, none⟩ = some (.slice (some ⟨br, 0, none⟩) T.rows.length c1) := HP2.out.box.cell 0
        have htv := HTBD.out _ (List.mem_cons_of_mem _ (List.mem_cons_of_mem _ (List.mem_cons_of_mem _ (List.mem_of_getElem? hvr))))
        have htr := HTBD.out (.slice (some ⟨br, 0, none⟩) T.rows.length c1) (by simp) br rfl
        have hob : w.heap.size + 2 ≤ bo := HP2.out.own.ge bo rfl
        have hqq := HP.out.qC
        have hqr : ∀ g, (Value.slice Ar r.length cr).ownBlock = some g → g ≠ q := fun g e e2 => by have := htv g e; omega
        have hur : Apt u (.slice Ar r.length cr) := fun g e e' => by have := htv g e'; have := HP2.out.lo g e; omega
        have HFar := Lib.hid (fun (b : Nat) (hb : b ≠ q) (hb2 : (C ≤ b ∧ b < w.heap.size + 2) ∨ b = bo ∨ b = wr.heap.size) => show ∀ x ∈ [bq q, u], x.ownBlock ≠ some b from fun x hx e => by
          simp only [List.mem_cons, List.not_mem_nil, or_false] at hx
          rcases hx with rfl | rfl
          · exact hb (bq_own e)
          · rcases hb2 with h1 | h1 | h1
            · have := HP.out.lo b e; omega
            · subst h1; exact HP.out.apt _ rfl e
            · have := HP.out.kep.own.lt b e; omega)
        have HXO := Lib.hid hbo
        have HBL := Lib.hid (World.block_lt_of_cell? _ _ hcr2)
        clear hgb hlt1 hlt3 hea heb hxa hxb exa exb hab i1 i2 i3 hrr hrt hor hvr er2 er3
        have hja0 : (0 : Int) ≤ (ja : Int) := Int.natCast_nonneg _
        have hja1 : (ja : Int) < (l.length : Int) := by omega
        have hjb0 : (0 : Int) ≤ (jb : Int) := Int.natCast_nonneg _
        have hjb1 : (jb : Int) < (l.length : Int) := by omega
        have hna0 : (0 : Int) ≤ (na : Int) := Int.natCast_nonneg _
        have hna1 : (na : Int) < (T.rows.length : Int) := by omega
        have hbow : bo < wb.heap.size := World.block_lt_of_cell? _ _ hca
        have hbrw : br < wb.heap.size := World.block_lt_of_cell? _ _ hcr2
        go_wp2_with fail
        go_region_held3 (fun w' => w'.cell? ⟨wr.heap.size, 1, none⟩ = some (.int .i64 (ja : Int)) ∧ w'.cell? ⟨wr.heap.size, 2, none⟩ = some (.int .i64 (jb : Int)) ∧ w'.cell? ⟨bo, oo + ja, none⟩ = some (.int .i64 xa) ∧ w'.cell? ⟨bo, oo + jb, none⟩ = some (.int .i64 xb) ∧ w'.cell? ⟨w.heap.size + 1, 0, none⟩ = some (.slice (some ⟨br, 0, none⟩) T.rows.length c1) ∧ w'.cell? ⟨br, na, none⟩ = some (.slice Ar r.length cr))
          (first | exact KP.out | exact ⟨y1, y2, hca, hcb, g1, hcr2⟩)
          (first
            | (go_at_call 112; refine (c_OpenedRows1 (HP2.out.step (Below.refl _ _).drew).kep hul300 (HP2.out.low.size) (by omega) ba bb (HOR.out.below (Below.refl _ _).drew) hqr hur HRT.out.1 HRT.out.2).mono ?_; rintro e wz ⟨rfl, u2, hk2, ho2, hf2⟩; have HP3 := Lib.hid ((HP2.out.step (Below.refl _ _).drew).put hk2 ho2 hf2); have KP := Lib.hid (And.intro ((ho2.cell (p := ⟨wr.heap.size, 1, none⟩) hrw (HFar.out wr.heap.size (by omega) (Or.inr (Or.inr rfl)))).trans y1) (And.intro ((ho2.cell (p := ⟨wr.heap.size, 2, none⟩) hrw (HFar.out wr.heap.size (by omega) (Or.inr (Or.inr rfl)))).trans y2) (And.intro ((ho2.cell (p := ⟨bo, oo + ja, none⟩) hbow (HFar.out bo (by omega) (Or.inr (Or.inl rfl)))).trans hca) (And.intro ((ho2.cell (p := ⟨bo, oo + jb, none⟩) hbow (HFar.out bo (by omega) (Or.inr (Or.inl rfl)))).trans hcb) (And.intro ((ho2.cell (p := ⟨w.heap.size + 1, 0, none⟩) (by show w.heap.size + 1 < wb.heap.size; omega) (HFar.out (w.heap.size + 1) (by omega) (Or.inl (by omega)))).trans g1) ((ho2.cell (p := ⟨br, na, none⟩) hbrw (HFar.out br (by omega) (Or.inl (by omega)))).trans hcr2)))))); clear ho2 hf2 hk2))
        go_wp2_with (at_builtin; refine wp_app1 (B := w.heap.size + 2) rfl rfl Tryz.underlying24 info_int rfl HP3.out.own rfl rfl rfl (by unfold maxLen; omega) (by omega) HP3.out.qC.2.2.2 ?_; intro v' w9 ho hg hfr)
        have HPn := Lib.hid (HP3.out.app (OwnI.snoc ho) hg hfr)
        go_roundw
        case rel => exact ⟨k + 1, _, by omega, by go_num, by rw [HS.out, HW.out]; go_num, by rw [HS.out, HW.out], by rw [HS.out, HW.out, HSU.out, HWU.out]; exact HPn⟩
        case measure => simp [intOf]; omega
      · -- not
        have hab := hgb.2.2 rfl
        obtain ⟨ja, rfl, hja, hea⟩ := elt_at (l := l) hab.1 (by have := HLL.out; omega)
        obtain ⟨bo, oo, xa, rfl, hbo, hxa, hca⟩ := (HRU.out.below HBB.out).int_at hja
        have exa := hea.symm.trans hxa
        injection exa with exa
        have HW := Lib.hid (show wireStep openM T (l, na, no) ⟨2, (ja : Int), gb⟩ = (l ++ [xa], na, no) by unfold wireStep; simp only [Int.reduceEq, if_false, if_true]; rw [exa])
        have HWU := Lib.hid (show (uStep openM T ((l, na, no), ul) ⟨2, (ja : Int), gb⟩).2 = ul by unfold uStep; simp)
        clear hgb hlt1 hlt3 hea hxa exa hab i1 i2 i3
        have hja0 : (0 : Int) ≤ (ja : Int) := Int.natCast_nonneg _
        have hja1 : (ja : Int) < (l.length : Int) := by omega
        go_wp2_with (at_builtin; refine wp_app1 (B := w.heap.size + 2) rfl rfl Tryz.underlying24 info_int rfl HP2.out.own rfl rfl rfl (by unfold maxLen; omega) (by omega) hsz ?_; intro v' w9 ho hg hfr)
        have HPn := Lib.hid (HP2.out.app (OwnI.snoc ho) hg hfr)
        go_roundw
        case rel => exact ⟨k + 1, _, by omega, by go_num, by rw [HS.out, HW.out], by rw [HS.out, HW.out], by rw [HS.out, HW.out, HSU.out, HWU.out]; exact HPn⟩
        case measure => simp [intOf]; omega
      · -- one
        have hno : no < T.ones.length := by have h1 := hlt3 rfl; have h2 := HOL.out; omega
        obtain ⟨br, cc, ee, -, hbr, hcc0⟩ := own_at HP2.out.tab.ones (by intro e; rw [e] at hno; simp at hno)
        injection ee with ee1 ee2 ee3
        subst ee1
        obtain ⟨xo, hxo⟩ : ∃ x, T.ones[no]? = some x := ⟨_, List.getElem?_eq_getElem hno⟩
        have hcr2 := hcc0 no xo hxo
        have HW := Lib.hid (show wireStep openM T (l, na, no) ⟨3, ga, gb⟩ = (l ++ [xo], na, no + 1) by unfold wireStep; simp only [Int.reduceEq, if_false, if_true]; rw [getD_at hxo])
        have HWU := Lib.hid (show (uStep openM T ((l, na, no), ul) ⟨3, ga, gb⟩).2 = ul by unfold uStep; simp)
        have g1 : wb.cell? ⟨w.heap.size + 1, 1, none⟩ = some (.slice (some ⟨br, 0, none⟩) T.ones.length c2) := HP2.out.box.cell 1
        clear hgb hlt1 hlt3 i1 i2 i3 hxo hcc0 ee2 ee3
        have hno0 : (0 : Int) ≤ (no : Int) := Int.natCast_nonneg _
        have hno1 : (no : Int) < (T.ones.length : Int) := by omega
        go_wp2_with (at_builtin; refine wp_app1 (B := w.heap.size + 2) rfl rfl Tryz.underlying24 info_int rfl HP2.out.own rfl rfl rfl (by unfold maxLen; omega) (by omega) hsz ?_; intro v' w9 ho hg hfr)
        have HPn := Lib.hid (HP2.out.app (OwnI.snoc ho) hg hfr)
        go_roundw
        case rel => exact ⟨k + 1, _, by omega, by go_num, by rw [HS.out, HW.out], by rw [HS.out, HW.out]; go_num, by rw [HS.out, HW.out, HSU.out, HWU.out]; exact HPn⟩
        case measure => simp [intOf]; omega
    · obtain rfl : k = c.gs.length := by omega
      have HE := Lib.hid (show c.gs.take c.gs.length = c.gs from List.take_of_length_le (Nat.le_refl _))
      go_wp2
      go_ret
      have HP9 := HP.out
      rw [HE.out] at HP9
      exact ⟨_, _, rfl, HP9.kep, HP9.low⟩
end Go.Proofs.YtejeppjmlgfiaaaGreat

/- Contracts of the rows that are used. Conditions: the lists are short. -/
namespace Go.Proofs.YtejeppjmlgfiaaaGreat
open Go.RowKit
set_option linter.unusedVariables false

/-- The rows that are used. -/
def opensM (c : Cir) (key off : Int) (a b : List Int) : Option (List Int) := if askedB c a b && inB key 0 1000000000 && offB off then some (usedM openM (tabM (gbZ off) (gbR off) key off c) (lbInM key off (a ++ b)) c.gs).2 else none
theorem opens_len (c : Cir) (key off : Int) (a b : List Int) : ((opensM c key off a b).getD []).length ≤ 300 := by
  unfold opensM
  rcases h : askedB c a b && inB key 0 1000000000 && offB off with _ | _
  · simp
  · simp only [Bool.and_eq_true] at h
    have hc := (askedB_of h.1.1).1
    have hb := cirB_bd hc
    have h1 := used_len (F := openM) (T := tabM (gbZ off) (gbR off) key off c) (inp := lbInM key off (a ++ b)) (cirB_kinds hc) c.gs.length (Nat.le_refl _)
    rw [List.take_of_length_le (Nat.le_refl _)] at h1
    have h2 := cnt_bd 1 c.gs
    simp only [if_true, Option.getD_some]
    omega
theorem lbIn_bd' {key r : Int} {l : List Int} (hr : 0 ≤ r ∧ r ≤ 65535) (hb : allB l 0 1 = true) : ∀ x ∈ lbInM key r l, 0 ≤ x ∧ x ≤ 65535 := by
  intro x hx
  unfold lbInM at hx
  rw [List.mem_mapIdx] at hx
  obtain ⟨i, h, rfl⟩ := hx
  have h1 := digM_bd [key, (i : Int), 13, 0]
  have h2 := off_bit hr (bit_cases hb (List.getElem_mem h))
  exact xorI_bd h1.1 h2.1 h1.2 h2.2
theorem asked_in' {c : Cir} {a b : List Int} (h : askedB c a b = true) : ((a ++ b).length : Int) = c.ins ∧ allB (a ++ b) 0 1 = true := by
  have := askedB_of h
  refine ⟨by unfold Cir.ins; rw [List.length_append]; omega, ?_⟩
  unfold allB at *
  rw [List.all_append, this.2.1, this.2.2.1]; rfl
theorem c_spec_gbKeys' {c : Cir} {gv ov : Value} {key off : Int} {w : World} (h : CirIn w gv ov c) :
    Calls Tryz.prog 100 #[cirV c gv ov, .int .i64 key, .int .i64 off] w fun e w' => e = .returned (.bool (cirB c && inB key 0 1000000000 && offB off)) ∧ Below w.heap.size w w' := by
  have H := Lib.hid h
  obtain ⟨hg, hoo⟩ := h
  obtain ⟨A, cg, rfl, -⟩ := hg
  obtain ⟨A', co, rfl, -⟩ := hoo
  have HB := Lib.hid ((Below.refl w.heap.size w).alloc (Nat.le_refl _) (.cells #[.int .i64 c.i0, .int .i64 c.i1, .slice A c.gs.length cg, .slice A' c.outs.length co] 26))
  unfold cirV
  rcases h1 : cirB c with _ | _ <;> rcases h2 : inB key 0 1000000000 with _ | _ <;> rcases h3 : offB off with _ | _
  all_goals
    go_enter Tryz.func100, Tryz.ntmps100
    go_wp2_with fail
    refine (c_spec_ciGood (H.out.alloc _)).mono ?_
    rintro e w1 ⟨rfl, hb⟩
    rw [h1]
    have HB2 := Lib.hid (below_step HB.out hb)
    clear hb
    go_wp2_with (first | (go_at_call 91; refine (c_spec_shKey).mono ?_; rintro e w' ⟨rfl, rfl⟩) | (go_at_call 134; refine (c_spec_lbOffset).mono ?_; rintro e w' ⟨rfl, rfl⟩))
    go_ret
    exact ⟨by simp, HB2.out⟩
theorem made_g {off : Int} {w : World} : Calls Tryz.prog 90 #[.int .i64 off] w fun e w' => ∃ q, e = .returned (.func (.func 144) #[] #[.pointer (some ⟨q, 0, none⟩)]) ∧ w'.cell? ⟨q, 0, none⟩ = some (.int .i64 off) ∧ Below w.heap.size w w' := by
  refine (c_impl_garbledAnd).mono ?_
  rintro e w' ⟨rfl, rfl⟩
  exact ⟨_, rfl, cell_new _ _ _, (Below.refl _ _).alloc (Nat.le_refl _) _⟩
set_option maxRecDepth 100000 in
set_option maxHeartbeats 4000000 in
theorem c_impl_OpenedRows {c : Cir} {gv ov va vb : Value} {key off : Int} {a b : List Int} {w : World} (h : CirIn w gv ov c) (ha : Ints w va a) (hb : Ints w vb b) (hla : a.length ≤ 1048576) (hlb : b.length ≤ 1048576) :
    Calls Tryz.prog 41 #[cirV c gv ov, .int .i64 key, .int .i64 off, va, vb] w (RetIB w (opensM c key off a b)) := by
  have H := Lib.hid h
  have HVA := Lib.hid ha
  have HVB := Lib.hid hb
  obtain ⟨hg, hoo⟩ := h
  obtain ⟨A, cg, rfl, -⟩ := hg
  obtain ⟨A', co, rfl, -⟩ := hoo
  obtain ⟨Aa, ca, rfl, -⟩ := ha
  obtain ⟨Ab, cb, rfl, -⟩ := hb
  unfold cirV
  obtain ⟨w0, hw0⟩ : ∃ W, w.alloc (.cells #[.int .i64 c.i0, .int .i64 c.i1, .slice A c.gs.length cg, .slice A' c.outs.length co] 26) = W := ⟨_, rfl⟩
  have HKC : Hid (Blk w0 w.heap.size 26 #[.int .i64 c.i0, .int .i64 c.i1, .slice A c.gs.length cg, .slice A' c.outs.length co]) := by rw [← hw0]; exact Blk.new _ _ _
  have HB : Hid (Below w.heap.size w w0) := by rw [← hw0]; exact (Below.refl _ _).alloc (Nat.le_refl _) _
  have x0 : w0.cell? ⟨w.heap.size, 0, none⟩ = some (.int .i64 c.i0) := HKC.out.cell 0
  have x1 : w0.cell? ⟨w.heap.size, 1, none⟩ = some (.int .i64 c.i1) := HKC.out.cell 1
  have x2 : w0.cell? ⟨w.heap.size, 2, none⟩ = some (.slice A c.gs.length cg) := HKC.out.cell 2
  have x3 : w0.cell? ⟨w.heap.size, 3, none⟩ = some (.slice A' c.outs.length co) := HKC.out.cell 3
  go_enter Tryz.func41, Tryz.ntmps41
  go_wp2_with fail
  clear hw0 x0 x1 x2 x3
  refine (c_impl_InputLabels (H.out.below HB.out) (HVA.out.below HB.out) (HVB.out.below HB.out) hla hlb).mono ?_
  rintro e w1 ⟨u, rfl, hu, hb1⟩
  rcases hq : askedB c a b && inB key 0 1000000000 && offB off with _ | _
  · have HM := Lib.hid (show opensM c key off a b = none by unfold opensM; rw [hq]; rfl)
    have hI : inputM c key off a b = none := by unfold inputM; rw [hq]; rfl
    rw [hI] at hu ⊢
    go_wp2
    go_ret2
    rw [HM.out]
    exact RetIB.no_below (below_step HB.out hb1)
  have HM := Lib.hid (show opensM c key off a b = some (usedM openM (tabM (gbZ off) (gbR off) key off c) (lbInM key off (a ++ b)) c.gs).2 by unfold opensM; rw [hq]; rfl)
  have hI : inputM c key off a b = some (lbInM key off (a ++ b)) := by unfold inputM; rw [hq]; rfl
  rw [hI] at hu ⊢
  simp only [Bool.and_eq_true] at hq
  have HQ := Lib.hid hq.1.1
  have hkb := inB_bd hq.1.2
  have hob := offB_bd hq.2
  have ho : 0 ≤ off ∧ off ≤ 65535 := ⟨hob.1, hob.2.1⟩
  have HC := Lib.hid (askedB_of hq.1.1).1
  have HTO := Lib.hid (gb_tab_ok (key := key) HC.out ho)
  have HIN := Lib.hid (asked_in' hq.1.1)
  have HIL := Lib.hid (show ((lbInM key off (a ++ b)).length : Int) = c.ins by rw [lbInM_length]; exact HIN.out.1)
  have HIB := Lib.hid (lbIn_bd' (key := key) ho HIN.out.2)
  have HT := Lib.hid (fun (W : World) (q : Nat) (hW : Below w.heap.size w W) (hq : W.cell? ⟨q, 0, none⟩ = some (.int .i64 off)) => c_tables_garbledAnd (H.out.below hW) HC.out hkb ho hq)
  unfold cirV at HT
  have HU := Lib.hid (show OwnI w1 w0.heap.size u (lbInM key off (a ++ b)) from hu)
  clear hI hq hob hu
  generalize tabM (gbZ off) (gbR off) key off c = T at *
  generalize lbInM key off (a ++ b) = inp at *
  obtain ⟨Au, cu, rfl, -⟩ := HU.out.ints
  have HB1 := Lib.hid (below_step HB.out hb1)
  replace HKC := Lib.hid (HKC.out.step hb1)
  clear hb1
  obtain ⟨w2, hw2⟩ : ∃ W, (w1.alloc (.cells #[] 3)).alloc (.cells #[.slice (some ⟨w1.heap.size, 0, none⟩) 0 0] 24) = W := ⟨_, rfl⟩
  have HKP : Hid (Kep w2 (w1.heap.size + 1) w1.heap.size (.slice (some ⟨w1.heap.size, 0, none⟩) 0 0) []) := by
    rw [← hw2]
    refine ⟨?_, (OwnI.empty (Nat.le_refl _)).alloc _, fun g e => by simp [Value.ownBlock] at e; omega⟩
    have := Blk.new (w1.alloc (.cells #[] 3)) 24 #[.slice (some ⟨w1.heap.size, 0, none⟩) 0 0]
    simp only [World.size_alloc] at this; exact this
  have HL2 : Hid (Below w1.heap.size w1 w2) := by rw [← hw2]; exact Lib.hid (((Below.refl _ _).alloc (Nat.le_refl _) _).alloc (by simp) _)
  have hs2 : w2.heap.size = w1.heap.size + 2 := by rw [← hw2]; simp
  have q0 : ∀ W, Below w1.heap.size w1 W → W.cell? ⟨w.heap.size, 0, none⟩ = some (.int .i64 c.i0) := belowCell (HKC.out.cell 0)
  have q1 : ∀ W, Below w1.heap.size w1 W → W.cell? ⟨w.heap.size, 1, none⟩ = some (.int .i64 c.i1) := belowCell (HKC.out.cell 1)
  have q2 : ∀ W, Below w1.heap.size w1 W → W.cell? ⟨w.heap.size, 2, none⟩ = some (.slice A c.gs.length cg) := belowCell (HKC.out.cell 2)
  have q3 : ∀ W, Below w1.heap.size w1 W → W.cell? ⟨w.heap.size, 3, none⟩ = some (.slice A' c.outs.length co) := belowCell (HKC.out.cell 3)
  have Q := Lib.hid (And.intro q0 (And.intro q1 (And.intro q2 q3)))
  clear q0 q1 q2 q3
  go_wp2_with fail
  clear hw2
  have q0 := Q.out.1
  have q1 := Q.out.2.1
  have q2 := Q.out.2.2.1
  have q3 := Q.out.2.2.2
  have hl2 := HL2.out
  go_region_held3 (fun W => Below w1.heap.size w1 W)
    (first | assumption | (exact HS.out) | (exact hl2.drew))
    (first
      | (go_at_call 90; refine (made_g).mono ?_; rintro e wa ⟨q, rfl, hqa, hb⟩; replace hqa := Lib.hid hqa; have HD := Lib.hid hb; have hLa : Below w1.heap.size w1 wa := below_step hl2.drew hb; have HKA := Lib.hid (HKP.out.below (below_step (Below.refl _ _).drew hb)); have hsa : w2.heap.size ≤ wa.heap.size := hb.size)
      | (go_at_call 57; refine (HT.out _ q (below_step HB1.out hLa) hqa.out).mono ?_; rintro e wz ⟨rv, nv, cv, vs, rfl, hz, hb⟩; obtain ⟨Ar, cr, rfl, -⟩ := hz.rows.rowsIn.form; obtain ⟨Ao, co', rfl, -⟩ := hz.ones.ints; obtain ⟨Ac, cc, rfl, -⟩ := hz.cols.ints; replace hz := Lib.hid (hz.mono (Nat.le_trans (Nat.le_of_eq hs2.symm) hsa)); have HD := Lib.hid hb; have hLz : Below w1.heap.size w1 wz := below_step hLa hb; have HKZ := Lib.hid (HKA.out.below hb); have hsz : w1.heap.size + 2 ≤ wz.heap.size := Nat.le_trans (Nat.le_trans (Nat.le_of_eq hs2.symm) hsa) hb.size; unfold gbV)
      | (go_at_call 87; refine (c_labels_kept (C := w1.heap.size + 2) hLz (H.out.below HB1.out) HC.out hz.out HKZ.out (fun g e => by simp [Value.ownBlock] at e; omega) ⟨Nat.le_succ _, Nat.lt_succ_self _, hsz⟩ HTO.out HU.out.ints HIL.out HIB.out).mono ?_; rintro e wl ⟨v, ul, rfl, hkl, hb⟩; have HKL := Lib.hid hkl; have HS := Lib.hid hb; clear hkl hb))
  all_goals
    obtain ⟨Av, cv, rfl, -⟩ := HKL.out.own.ints
    have z0 : wl.cell? ⟨w1.heap.size + 1, 0, none⟩ = some _ := HKL.out.blk.cell 0
    go_wp2
    go_ret2
    rw [HM.out]
    exact RetIB.yes (HKL.out.own.mono HB1.out.size) (below_step HB1.out HS.out)
set_option maxRecDepth 100000 in
set_option maxHeartbeats 4000000 in
theorem c_spec_OpenedRows {c : Cir} {gv ov va vb : Value} {key off : Int} {a b : List Int} {w : World} (h : CirIn w gv ov c) (ha : Ints w va a) (hb : Ints w vb b) (hla : a.length ≤ 1048576) (hlb : b.length ≤ 1048576) :
    Calls Tryz.prog 42 #[cirV c gv ov, .int .i64 key, .int .i64 off, va, vb] w (RetIB w (opensM c key off a b)) := by
  have H := Lib.hid h
  have HVA := Lib.hid ha
  have HVB := Lib.hid hb
  obtain ⟨hg, hoo⟩ := h
  obtain ⟨A, cg, rfl, -⟩ := hg
  obtain ⟨A', co, rfl, -⟩ := hoo
  obtain ⟨Aa, ca, rfl, -⟩ := ha
  obtain ⟨Ab, cb, rfl, -⟩ := hb
  have HKY := Lib.hid (fun (W : World) (hW : Below w.heap.size w W) => c_spec_gbKeys' (key := key) (off := off) (H.out.below hW))
  have HAS := Lib.hid (fun (W : World) (hW : Below w.heap.size w W) => c_spec_ciAsked (H.out.below hW) (HVA.out.below hW) (HVB.out.below hW) hla hlb)
  unfold cirV at HKY HAS ⊢
  obtain ⟨w0, hw0⟩ : ∃ W, w.alloc (.cells #[.int .i64 c.i0, .int .i64 c.i1, .slice A c.gs.length cg, .slice A' c.outs.length co] 26) = W := ⟨_, rfl⟩
  have HKC : Hid (Blk w0 w.heap.size 26 #[.int .i64 c.i0, .int .i64 c.i1, .slice A c.gs.length cg, .slice A' c.outs.length co]) := by rw [← hw0]; exact Blk.new _ _ _
  have HB : Hid (Below w.heap.size w w0) := by rw [← hw0]; exact (Below.refl _ _).alloc (Nat.le_refl _) _
  have x0 : w0.cell? ⟨w.heap.size, 0, none⟩ = some (.int .i64 c.i0) := HKC.out.cell 0
  have x1 : w0.cell? ⟨w.heap.size, 1, none⟩ = some (.int .i64 c.i1) := HKC.out.cell 1
  have x2 : w0.cell? ⟨w.heap.size, 2, none⟩ = some (.slice A c.gs.length cg) := HKC.out.cell 2
  have x3 : w0.cell? ⟨w.heap.size, 3, none⟩ = some (.slice A' c.outs.length co) := HKC.out.cell 3
  go_enter Tryz.func42, Tryz.ntmps42
  go_wp2_with fail
  clear hw0 x0 x1 x2 x3
  refine (HKY.out _ HB.out).mono ?_
  rintro e w1 ⟨rfl, hb1⟩
  have HB1 := Lib.hid (below_step HB.out hb1)
  replace HKC := Lib.hid (HKC.out.step hb1)
  clear hb1 HB
  rcases hk : (cirB c && inB key 0 1000000000 && offB off) with _ | _
  · have HM := Lib.hid (show opensM c key off a b = none by
      unfold opensM
      rcases h1 : askedB c a b with _ | _
      · rfl
      · have := (askedB_of h1).1
        rw [this, Bool.true_and] at hk
        rw [Bool.true_and, hk]; rfl)
    go_wp2
    go_ret2
    rw [HM.out]
    exact RetIB.no_below HB1.out
  have x0 : w1.cell? ⟨w.heap.size, 0, none⟩ = some (.int .i64 c.i0) := HKC.out.cell 0
  have x1 : w1.cell? ⟨w.heap.size, 1, none⟩ = some (.int .i64 c.i1) := HKC.out.cell 1
  have x2 : w1.cell? ⟨w.heap.size, 2, none⟩ = some (.slice A c.gs.length cg) := HKC.out.cell 2
  have x3 : w1.cell? ⟨w.heap.size, 3, none⟩ = some (.slice A' c.outs.length co) := HKC.out.cell 3
  go_wp2_with fail
  clear x0 x1 x2 x3
  refine (HAS.out _ HB1.out).mono ?_
  rintro e w2 ⟨rfl, hb2⟩
  have HB2 := Lib.hid (below_step HB1.out hb2)
  replace HKC := Lib.hid (HKC.out.step hb2)
  clear hb2
  rcases hq : askedB c a b with _ | _
  · have HM := Lib.hid (show opensM c key off a b = none by unfold opensM; rw [hq]; rfl)
    go_wp2
    go_ret2
    rw [HM.out]
    exact RetIB.no_below HB2.out
  have hk2 := hk
  simp only [Bool.and_eq_true] at hk2
  have HM := Lib.hid (show opensM c key off a b = some (usedM openM (tabM (gbZ off) (gbR off) key off c) (lbInM key off (a ++ b)) c.gs).2 by unfold opensM; rw [hq, hk2.1.2, hk2.2]; rfl)
  have hkb := inB_bd hk2.1.2
  have hob := offB_bd hk2.2
  have ho : 0 ≤ off ∧ off ≤ 65535 := ⟨hob.1, hob.2.1⟩
  have HC := Lib.hid hk2.1.1
  have HTO := Lib.hid (gb_tab_ok (key := key) HC.out ho)
  have HIN := Lib.hid (asked_in' hq)
  have HIL := Lib.hid (show ((lbInM key off (a ++ b)).length : Int) = c.ins by rw [lbInM_length]; exact HIN.out.1)
  have HIB := Lib.hid (lbIn_bd' (key := key) ho HIN.out.2)
  have HMK := Lib.hid (fun (W : World) (hW : Below w.heap.size w W) => c_spec_gbMake (H.out.below hW) HC.out hkb ho)
  have hcb := cirB_bd HC.out
  have hab : (a ++ b).length ≤ 40 := by have := HIN.out.1; unfold Cir.ins at this; omega
  unfold cirV at HMK
  clear hk hk2 hq hob hcb
  have q0 : ∀ W, Below w2.heap.size w2 W → W.cell? ⟨w.heap.size, 0, none⟩ = some (.int .i64 c.i0) := belowCell (HKC.out.cell 0)
  have q1 : ∀ W, Below w2.heap.size w2 W → W.cell? ⟨w.heap.size, 1, none⟩ = some (.int .i64 c.i1) := belowCell (HKC.out.cell 1)
  have q2 : ∀ W, Below w2.heap.size w2 W → W.cell? ⟨w.heap.size, 2, none⟩ = some (.slice A c.gs.length cg) := belowCell (HKC.out.cell 2)
  have q3 : ∀ W, Below w2.heap.size w2 W → W.cell? ⟨w.heap.size, 3, none⟩ = some (.slice A' c.outs.length co) := belowCell (HKC.out.cell 3)
  generalize tabM (gbZ off) (gbR off) key off c = T at *
  go_wp2_with fail
  go_region_held3 (fun W => Below w2.heap.size w2 W)
    (first | assumption | (exact HS.out) | (exact (Below.refl _ _).drew))
    (first
      | (go_at_call 92; refine (HMK.out _ (below_step HB2.out (Below.refl _ _).drew)).mono ?_; rintro e wz ⟨rv, nv, cv, vs, rfl, hz, hb⟩; obtain ⟨Ar, cr, rfl, -⟩ := hz.rows.rowsIn.form; obtain ⟨Ao, co', rfl, -⟩ := hz.ones.ints; obtain ⟨Ac, cc, rfl, -⟩ := hz.cols.ints; have HZ := Lib.hid hz.gbIn; have hLz : Below w2.heap.size w2 wz := below_step (Below.refl _ _).drew hb; clear hz hb; unfold gbV)
      | (go_at_call 66; refine (c_spec_ciJoin (HVA.out.below (below_step HB2.out hLz)) (HVB.out.below (below_step HB2.out hLz)) hla hlb).mono ?_; rintro e wa ⟨u, rfl, hu, hb⟩; have HU := Lib.hid hu.ints; have HZ1 := Lib.hid (HZ.out.below hb); have hLa : Below w2.heap.size w2 wa := below_step hLz hb; clear hu hb)
      | (go_at_call 65; refine (c_spec_lbInputs HU.out (by omega) HIN.out.2 hkb ho).mono ?_; rintro e wb ⟨u2, rfl, hu, hb⟩; have HU2 := Lib.hid hu.ints; have HZ2 := Lib.hid (HZ1.out.below hb); have hLb : Below w2.heap.size w2 wb := below_step hLa hb; clear hu hb)
      | (go_at_call 93; refine (c_spec_gbWires (H.out.below (below_step HB2.out hLb)) HC.out HZ2.out HTO.out HU2.out HIL.out HIB.out).mono ?_; rintro e wc ⟨u3, u4, rfl, hu3, hu, hb⟩; have HU4 := Lib.hid hu; have hLc : Below w2.heap.size w2 wc := below_step hLb hb; have hsz : w.heap.size ≤ wb.heap.size := Nat.le_trans HB2.out.size hLb.size; clear hu3 hu hb))
  all_goals
    obtain ⟨Av, cv, rfl, -⟩ := HU4.out.ints
    go_wp2
    go_ret2
    rw [HM.out]
    exact RetIB.yes (HU4.out.mono hsz) (below_step HB2.out hLc)
end Go.Proofs.YtejeppjmlgfiaaaGreat

/- Contracts of tables with one row bent. Conditions: the row is there, the tables are short. -/
namespace Go.Proofs.YtejeppjmlgfiaaaGreat
open Go.RowKit
set_option linter.unusedVariables false

def bendRow (r : List Int) (row : Nat) (m : Int) : List Int := r.set row (xorI (r.getD row 0) m)
def bendR (rows : List (List Int)) (k row : Nat) (m : Int) : List (List Int) := rows.set k (bendRow (rows.getD k []) row m)
def bendG (g : Gb) (k row : Nat) (m : Int) : Gb := ⟨bendR g.rows k row m, g.ones, g.cols⟩
theorem bendR_at {rows : List (List Int)} {k row j : Nat} {m : Int} {r : List Int} (h : rows[j]? = some r) : (bendR rows k row m)[j]? = some (if j = k then bendRow r row m else r) := by
  have hj : j < rows.length := (List.getElem?_eq_some_iff.1 h).1
  unfold bendR
  by_cases e : j = k
  · subst e; rw [List.getElem?_set_self hj, if_pos rfl, List.getD_eq_getElem?_getD, h]; rfl
  · rw [List.getElem?_set_ne (fun h => e h.symm), if_neg e, h]
theorem bendR_length (rows : List (List Int)) (k row : Nat) (m : Int) : (bendR rows k row m).length = rows.length := by simp [bendR]

set_option maxRecDepth 100000 in
set_option maxHeartbeats 4000000 in
theorem c_impl_bent {g : Gb} {rv nv cv : Value} {w : World} {k row : Nat} {m : Int} (h : GbIn w rv nv cv g) (hs : g.sz ≤ 1048576) (hk : k < g.rows.length) (hrow : row < (g.rows.getD k []).length) (hr : ∀ x ∈ g.rows.getD k [], 0 ≤ x ∧ x ≤ 65535) (hm : 0 ≤ m ∧ m ≤ 65535) :
    Calls Tryz.prog 115 #[gbV rv nv cv, .int .i64 k, .int .i64 row, .int .i64 m] w (RetGb w (bendG g k row m)) := by
  have H := Lib.hid h
  have HS := Lib.hid hs
  obtain ⟨hrw, ho, hc⟩ := h
  obtain ⟨A, c, rfl, -⟩ := hrw.form
  obtain ⟨A1, c1, rfl, -⟩ := ho
  obtain ⟨A2, c2, rfl, -⟩ := hc
  have hol : g.ones.length ≤ 1048576 := by unfold Gb.sz at hs; omega
  have hcl : g.cols.length ≤ 1048576 := by unfold Gb.sz at hs; omega
  have hrl : g.rows.length ≤ 1048576 := by unfold Gb.sz at hs; omega
  have HRL := Lib.hid (Gb.row_le hs)
  obtain ⟨A', c', e', hlc, hcm, hat⟩ := hrw.form
  injection e' with e1 e2 e3
  subst e1 e3
  have HAT := Lib.hid hat
  clear hrw hs hat
  have HROW := Lib.hid hrow
  have HR0 := Lib.hid hr
  clear hrow hr
  unfold gbV
  go_enter Tryz.func115, Tryz.ntmps115
  go_upto_region 1 with fail
  obtain ⟨w0, hw0⟩ : ∃ W, ((w.alloc (.cells #[.slice A g.rows.length c, .slice A1 g.ones.length c1, .slice A2 g.cols.length c2] 50)).alloc (.cells #[.slice none 0 0, .slice none 0 0, .slice none 0 0] 50)) = W := ⟨_, rfl⟩
  have HP : Hid (Blk w0 w.heap.size 50 #[.slice A g.rows.length c, .slice A1 g.ones.length c1, .slice A2 g.cols.length c2]) := by rw [← hw0]; exact (Blk.new _ _ _).alloc _
  have HR : Hid (Blk w0 (w.heap.size + 1) 50 #[.slice none 0 0, .slice none 0 0, .slice none 0 0]) := by rw [← hw0]; have := Blk.new (w.alloc (.cells #[.slice A g.rows.length c, .slice A1 g.ones.length c1, .slice A2 g.cols.length c2] 50)) 50 #[.slice none 0 0, .slice none 0 0, .slice none 0 0]; simp only [World.size_alloc] at this; exact this
  have HB : Hid (Below w.heap.size w w0) := by rw [← hw0]; exact ((Below.refl _ _).alloc (Nat.le_refl _) _).alloc (by simp) _
  rw [hw0]
  clear hw0
  go_cut [9] (fun s9 wx => ∃ b ov cv, s9 = .pointer (some ⟨b, 0, none⟩) ∧ Hid (Three 50 wx w0 b ov cv g.ones g.cols))
  case first =>
    have q0 : ∀ w', Below w0.heap.size w0 w' → w'.cell? ⟨w.heap.size, 1, none⟩ = some (.slice A1 g.ones.length c1) := fun w' h => (h.cell (p := ⟨w.heap.size, 1, none⟩) HP.out.lt).trans (HP.out.cell 1)
    have q1 : ∀ w', Below w0.heap.size w0 w' → w'.cell? ⟨w.heap.size, 2, none⟩ = some (.slice A2 g.cols.length c2) := fun w' h => (h.cell (p := ⟨w.heap.size, 2, none⟩) HP.out.lt).trans (HP.out.cell 2)
    go_region_held3 (fun w' => Below w0.heap.size w0 w')
      (first | (refine below_step ?_ HD.out; assumption) | (exact (Below.refl _ _).drew) | (exact Below.refl _ _) | (exact Below.alloc (by assumption) (Below.size (B := w0.heap.size) (w := w0) (by assumption)) _) | (exact Below.alloc (Below.refl _ _) (Nat.le_refl _) _) | (exact below_refill (by assumption) (by first | exact Nat.le_refl _ | assumption | simp)) | (refine Below.setCell (Below.setCell (Below.setCell (by assumption) (p := ⟨_, 0, none⟩) ?_ _) (p := ⟨_, 1, none⟩) ?_ _) (p := ⟨_, 2, none⟩) ?_ _ <;> (first | exact Nat.le_refl _ | assumption)))
      (first
        | (go_at_call_of 143 (Value.slice A1 g.ones.length c1); refine (c_slices_Clone ((H.out.ones.below HB.out).below (by first | assumption | (refine Below.alloc ?_ (Below.size ?_) _ <;> assumption))) (by omega)).mono ?_; rintro e wa ⟨ua, rfl, Oa, hb⟩; obtain ⟨Aa, ca, rfl, -⟩ := Oa.ints; replace Oa := Lib.hid Oa; have HD := Lib.hid hb; have hLa : Below w0.heap.size w0 wa := below_step (by first | assumption | exact (Below.refl _ _).drew) hb; have hsa : w0.heap.size ≤ wa.heap.size := Nat.le_trans (by first | exact Nat.le_refl _ | assumption | exact Nat.le_succ_of_le (by assumption) | (simp; done) | (simp; omega)) hb.size; (first | (replace KZ := Lib.hid (KZ.out.step hb)) | (have KZ : Hid (Blk _ w0.heap.size _ _) := Lib.hid ((Blk.new w0.drew _ _).step hb)) | (have KZ := Lib.hid ((Blk.new _ _ _).step hb)) | skip); (try (have y0 := KZ.out.cell 0; have y1 := KZ.out.cell 1; have y2 := KZ.out.cell 2; have yf0 := KZ.out.free 0; have yf1 := KZ.out.free 1; have yf2 := KZ.out.free 2; simp only [List.getElem?_toArray, List.getElem?_cons_zero, List.getElem?_cons_succ] at y0 y1 y2)))
        | (go_at_call_of 143 (Value.slice A2 g.cols.length c2); refine (c_slices_Clone ((H.out.cols.below HB.out).below (by first | assumption | (refine Below.alloc ?_ (Below.size ?_) _ <;> assumption))) (by omega)).mono ?_; rintro e wb ⟨ub, rfl, Ob, hb⟩; obtain ⟨Ab, cb, rfl, -⟩ := Ob.ints; replace Ob := Lib.hid Ob; have HD := Lib.hid hb; have hLb : Below w0.heap.size w0 wb := below_step (by first | assumption | exact (Below.refl _ _).drew) hb; (try have hka := KZ.out.lt); have hsb : w0.heap.size ≤ wb.heap.size := Nat.le_trans (by first | exact Nat.le_refl _ | assumption | exact Nat.le_succ_of_le (by assumption) | (simp; done) | (simp; omega)) hb.size; (first | (replace KZ := Lib.hid (KZ.out.step hb)) | (have KZ : Hid (Blk _ w0.heap.size _ _) := Lib.hid ((Blk.new w0.drew _ _).step hb)) | (have KZ := Lib.hid ((Blk.new _ _ _).step hb)) | skip); (try (have y0 := KZ.out.cell 0; have y1 := KZ.out.cell 1; have y2 := KZ.out.cell 2; have yf0 := KZ.out.free 0; have yf1 := KZ.out.free 1; have yf2 := KZ.out.free 2; simp only [List.getElem?_toArray, List.getElem?_cons_zero, List.getElem?_cons_succ] at y0 y1 y2))))
    all_goals
      have h1 : OwnI wb w0.heap.size (.slice Aa g.ones.length ca) g.ones := (OwnI.mono (B' := w0.heap.size) Oa.out (by first | exact Nat.le_refl _ | (simp; done))).below (by first | exact HD.out | exact lit_trans HD.out)
      have h2 : OwnI wb w0.heap.size (.slice Ab g.cols.length cb) g.cols := OwnI.mono (B' := w0.heap.size) Ob.out (by first | exact hsa | exact Nat.le_succ_of_le hsa | (simp; omega))
      have h3 : Apt (.slice Aa g.ones.length ca) (.slice Ab g.cols.length cb) := Apt.ofLt Oa.out.lt (fun b hb => Nat.le_trans (by first | exact Nat.le_refl _ | (simp; done)) (Ob.out.ge b hb))
      have h4 := hLb
      go_wp2_with fail
      go_meet
      first
        | exact ⟨_, _, _, rfl, Lib.hid (three_new h1 h2 h3 h4 hsb)⟩
        | exact ⟨_, _, _, rfl, Lib.hid (three_set KZ.out h1 h2 h3 h4 (by rintro u (rfl | rfl) e; (first | (have l2 : w0.heap.size + 1 ≤ _ := Nat.le_trans (by simp) (Oa.out.ge _ e); omega) | (have l1 := Oa.out.lt _ e; omega)); (first | (have l3 := Ob.out.ge _ e; omega) | (have l4 : wa.heap.size + 1 ≤ _ := Nat.le_trans (by simp) (Ob.out.ge _ e); omega))) (by first | exact Nat.le_refl _ | exact hsa))⟩
  case rest =>
    obtain ⟨b, ov, cv, rfl, H3⟩ := hcut
    have hs0 := H3.out.below.size
    obtain ⟨W1, hW1⟩ : ∃ W, wc = W := ⟨_, rfl⟩
    rw [hW1] at H3 ⊢
    clear hW1
    have p0 : W1.cell? ⟨w.heap.size, 0, none⟩ = some (.slice A g.rows.length c) := (H3.out.below.cell (p := ⟨w.heap.size, 0, none⟩) HP.out.lt).trans (HP.out.cell 0)
    have HST := Lib.hid H3.out.sta
    have hlo := HST.out.lo
    clear H3 hs0
    go_wp2_with fail
    go_loopw [10, 11, 22] (fun s10 s11 i wr => ∃ (j : Nat) (x10 x11 : Value), s10 = x10 ∧ s11 = x11 ∧ j ≤ g.rows.length ∧ i = .int .i64 j ∧ ∃ rv vs, Hid (Sta 50 wr w0 b rv ov cv vs ⟨(bendR g.rows k row m).take j, g.ones, g.cols⟩)) (fun _ _ i _ => g.rows.length - (intOf i).toNat)
    case atStart => exact ⟨0, _, _, rfl, rfl, Nat.zero_le _, rfl, _, _, by simpa using HST⟩
    case round =>
      obtain ⟨j, x10, x11, rfl, rfl, hj, rfl, rv, vs, HO⟩ := hrel
      clear HST p0
      obtain ⟨wa, rfl⟩ : ∃ W, W = wr := ⟨wr, rfl⟩
      have HBa := Lib.hid (HB.out.trans (HO.out.below.mono HB.out.size))
      have hlb := HO.out.below.size
      by_cases hlt : j < g.rows.length
      · obtain ⟨bb, o, A', r, c', rfl, hbl, hrk, hcell, hi⟩ := HAT.out j hlt
        have hc2 := (HBa.out.cell (p := ⟨bb, o + j, none⟩) hbl).trans hcell
        have hrl' := HRL.out r (List.mem_of_getElem? hrk)
        have HI := Lib.hid (hi.below HBa.out)
        have HRK := Lib.hid hrk
        clear hcell hi hrk
        go_wp2_with fail
        refine (c_slices_Clone HI.out (by omega)).mono ?_
        rintro e w1 ⟨u, rfl, hu, hb1⟩
        obtain ⟨Au, cu, rfl, -⟩ := hu.ints
        have HU := Lib.hid hu
        have HB1 := Lib.hid hb1
        clear hu hb1 hc2
        go_upto_if 31 with fail
        go_cut [] (fun wx => Hid (OwnI wx wa.heap.size (.slice Au r.length cu) (if j = k then bendRow r row m else r)) ∧ Hid (Below wa.heap.size wa wx))
        case first =>
          by_cases hjk : j = k
          · subst hjk
            have e1 : g.rows.getD j [] = r := by rw [List.getD_eq_getElem?_getD, HRK.out]; rfl
            have hrow := HROW.out
            have hr0 := HR0.out
            rw [e1] at hrow hr0
            have hx : r[row]? = some r[row] := List.getElem?_eq_getElem hrow
            have hxb := hr0 r[row] (List.getElem_mem _)
            have hbx := bits_xor hxb.1 hm.1 (by omega) (by omega)
            obtain ⟨gu, cu', e2, -, hgb, hcu⟩ := own_at HU.out (by intro e; rw [e] at hrow; simp at hrow)
            injection e2 with e3 e4 e5
            subst e3 e5
            have hc0 := hcu row _ hx
            have hfz := HU.out.free row
            have hgu := (HU.out.ge gu rfl)
            have HN := Lib.hid (show OwnI (w1.setCell ⟨gu, row, none⟩ (.int .i64 (xorI r[row] m))) wa.heap.size (.slice (some ⟨gu, 0, none⟩) r.length cu) (if j = j then bendRow r row m else r) by
              rw [if_pos rfl]; unfold bendRow; rw [show r.getD row 0 = r[row] by rw [List.getD_eq_getElem?_getD, hx]; rfl]; exact HU.out.put row _)
            have HBN := Lib.hid (HB1.out.setCell (p := ⟨gu, row, none⟩) hgu (.int .i64 (xorI r[row] m)))
            generalize r[row] = x at *
            clear hx hr0 hcu e1
            go_wp2_with fail
            go_meet
            exact ⟨HN, HBN⟩
          · have hjk2 : ¬ (j : Int) = (k : Int) := by omega
            have HN := Lib.hid (show OwnI w1 wa.heap.size (.slice Au r.length cu) (if j = k then bendRow r row m else r) by rw [if_neg hjk]; exact HU.out)
            go_wp2_with fail
            go_meet
            exact ⟨HN, HB1⟩
        case rest =>
          obtain ⟨HU2, HB2⟩ := hcut
          clear HU HB1
          obtain ⟨W2, hW2⟩ : ∃ W, wc = W := ⟨_, rfl⟩
          rw [hW2] at HU2 HB2 ⊢
          clear hW2
          have HS2 := Lib.hid (HO.out.step HB2.out)
          have x0 : W2.cell? ⟨b, 0, none⟩ = some rv := HS2.out.blk.cell 0
          have hsz : w0.heap.size ≤ W2.heap.size := HS2.out.below.size
          have hlen : ((bendR g.rows k row m).take j).length = j := by simp [bendR_length]; omega
          have hown := HS2.out.own.rows.outer
          rw [hlen] at hown
          have HOW := Lib.hid hown
          clear hown
          go_wp2_with (at_builtin; refine wp_app1 (B := w0.heap.size) rfl rfl Tryz.underlying33 info_ints rfl HOW.out rfl rfl rfl (by unfold maxLen; omega) (by omega) hsz ?_; intro v' w2 ho hg hfr; have HN := Lib.hid (HO.out.row HB2.out HU2.out (by rw [hlen]; exact ho) hg hfr); have hk2 := HS2.out.blk.grown hg (fun e => HS2.out.far rv (by simp) e.symm); have z0 : w2.cell? ⟨b, 0, none⟩ = some rv := hk2.cell 0; have zf := hk2.free 0; clear hk2 ho hg hfr; obtain ⟨Av, cv9, ev, -⟩ := HN.out.own.rows.rowsIn.form; simp only [List.length_append, hlen, List.length_cons, List.length_nil, Nat.zero_add] at ev; subst ev)
          go_roundw
          case rel => exact ⟨j + 1, _, _, rfl, rfl, by omega, by go_num, _, _, by rw [take_snoc (bendR_at HRK.out)]; exact HN⟩
          case measure => simp [intOf]; omega
      · obtain rfl : j = g.rows.length := by omega
        obtain ⟨Ar, cr, rfl, -⟩ := HO.out.own.rows.rowsIn.form
        obtain ⟨Ao, co, rfl, -⟩ := HO.out.own.ones.ints
        obtain ⟨Ac, cc, rfl, -⟩ := HO.out.own.cols.ints
        have x0 : wa.cell? ⟨b, 0, none⟩ = some _ := HO.out.blk.cell 0
        have x1 : wa.cell? ⟨b, 1, none⟩ = some _ := HO.out.blk.cell 1
        have x2 : wa.cell? ⟨b, 2, none⟩ = some _ := HO.out.blk.cell 2
        have hR := HR.out.below HO.out.below HR.out.lt
        have y0 : wa.cell? ⟨w.heap.size + 1, 0, none⟩ = some (.slice none 0 0) := hR.cell 0
        have y1 : wa.cell? ⟨w.heap.size + 1, 1, none⟩ = some (.slice none 0 0) := hR.cell 1
        have y2 : wa.cell? ⟨w.heap.size + 1, 2, none⟩ = some (.slice none 0 0) := hR.cell 2
        have yf0 := hR.free 0
        have yf1 := hR.free 1
        have yf2 := hR.free 2
        have hlow := HR.out.lt
        have hRl := hR.lt
        clear hR
        go_wp2
        have hown : OwnGb wa w0.heap.size (.slice Ar ((bendR g.rows k row m).take g.rows.length).length cr) (.slice Ao g.ones.length co) (.slice Ac g.cols.length cc) vs (bendG g k row m) := by
          have h := HO.out.own
          rw [show (bendG g k row m) = ⟨(bendR g.rows k row m).take g.rows.length, g.ones, g.cols⟩ by unfold bendG; rw [List.take_of_length_le (by rw [bendR_length]; exact Nat.le_refl _)]]
          exact h
        rw [List.length_take] at hown
        refine bodyPost_ret (v := gbV (.slice Ar (min g.rows.length (bendR g.rows k row m).length) cr) (.slice Ao g.ones.length co) (.slice Ac g.cols.length cc)) (by simp [results, Tryz.results115, go_sem, gbV, y0, y1, y2]) rfl ⟨_, _, _, vs, rfl, ?_, ?_⟩
        · exact (((hown.setLow hlow 0 _).setLow hlow 1 _).setLow hlow 2 _).mono HB.out.size
        · exact ((HBa.out.setCell (p := ⟨w.heap.size + 1, 0, none⟩) (by simp) _).setCell (p := ⟨w.heap.size + 1, 1, none⟩) (by simp) _).setCell (p := ⟨w.heap.size + 1, 2, none⟩) (by simp) _

set_option maxRecDepth 100000 in
set_option maxHeartbeats 4000000 in
theorem c_spec_gbOwn {g : Gb} {rv nv cv : Value} {w : World} (h : GbIn w rv nv cv g) (hs : g.sz ≤ 1048576) :
    Calls Tryz.prog 119 #[gbV rv nv cv] w (RetGb w g) := by
  have H := Lib.hid h
  have HS := Lib.hid hs
  obtain ⟨hrw, ho, hc⟩ := h
  obtain ⟨A, c, rfl, -⟩ := hrw.form
  obtain ⟨A1, c1, rfl, -⟩ := ho
  obtain ⟨A2, c2, rfl, -⟩ := hc
  have hol : g.ones.length ≤ 1048576 := by unfold Gb.sz at hs; omega
  have hcl : g.cols.length ≤ 1048576 := by unfold Gb.sz at hs; omega
  have hrl : g.rows.length ≤ 1048576 := by unfold Gb.sz at hs; omega
  have HRL := Lib.hid (Gb.row_le hs)
  obtain ⟨A', c', e', hlc, hcm, hat⟩ := hrw.form
  injection e' with e1 e2 e3
  subst e1 e3
  have HAT := Lib.hid hat
  clear hrw hs hat
  unfold gbV
  go_enter Tryz.func119, Tryz.ntmps119
  go_upto_region 1 with fail
  obtain ⟨w0, hw0⟩ : ∃ W, ((w.alloc (.cells #[.slice A g.rows.length c, .slice A1 g.ones.length c1, .slice A2 g.cols.length c2] 50)).alloc (.cells #[.slice none 0 0, .slice none 0 0, .slice none 0 0] 50)) = W := ⟨_, rfl⟩
  have HP : Hid (Blk w0 w.heap.size 50 #[.slice A g.rows.length c, .slice A1 g.ones.length c1, .slice A2 g.cols.length c2]) := by rw [← hw0]; exact (Blk.new _ _ _).alloc _
  have HR : Hid (Blk w0 (w.heap.size + 1) 50 #[.slice none 0 0, .slice none 0 0, .slice none 0 0]) := by rw [← hw0]; have := Blk.new (w.alloc (.cells #[.slice A g.rows.length c, .slice A1 g.ones.length c1, .slice A2 g.cols.length c2] 50)) 50 #[.slice none 0 0, .slice none 0 0, .slice none 0 0]; simp only [World.size_alloc] at this; exact this
  have HB : Hid (Below w.heap.size w w0) := by rw [← hw0]; exact ((Below.refl _ _).alloc (Nat.le_refl _) _).alloc (by simp) _
  rw [hw0]
  clear hw0
  go_cut [3] (fun s9 wx => ∃ b ov cv, s9 = .pointer (some ⟨b, 0, none⟩) ∧ Hid (Three 50 wx w0 b ov cv g.ones g.cols))
  case first =>
    have q0 : ∀ w', Below w0.heap.size w0 w' → w'.cell? ⟨w.heap.size, 1, none⟩ = some (.slice A1 g.ones.length c1) := fun w' h => (h.cell (p := ⟨w.heap.size, 1, none⟩) HP.out.lt).trans (HP.out.cell 1)
    have q1 : ∀ w', Below w0.heap.size w0 w' → w'.cell? ⟨w.heap.size, 2, none⟩ = some (.slice A2 g.cols.length c2) := fun w' h => (h.cell (p := ⟨w.heap.size, 2, none⟩) HP.out.lt).trans (HP.out.cell 2)
    go_region_held3 (fun w' => Below w0.heap.size w0 w')
      (first | (refine below_step ?_ HD.out; assumption) | (exact (Below.refl _ _).drew) | (exact Below.refl _ _) | (exact Below.alloc (by assumption) (Below.size (B := w0.heap.size) (w := w0) (by assumption)) _) | (exact Below.alloc (Below.refl _ _) (Nat.le_refl _) _) | (exact below_refill (by assumption) (by first | exact Nat.le_refl _ | assumption | simp)) | (refine Below.setCell (Below.setCell (Below.setCell (by assumption) (p := ⟨_, 0, none⟩) ?_ _) (p := ⟨_, 1, none⟩) ?_ _) (p := ⟨_, 2, none⟩) ?_ _ <;> (first | exact Nat.le_refl _ | assumption)))
      (first
        | (go_at_call_of 133 (Value.slice A1 g.ones.length c1); refine (c_spec_l1Own ((H.out.ones.below HB.out).below (by first | assumption | (refine Below.alloc ?_ (Below.size ?_) _ <;> assumption))) (by omega)).mono ?_; rintro e wa ⟨ua, rfl, Oa, hb⟩; obtain ⟨Aa, ca, rfl, -⟩ := Oa.ints; replace Oa := Lib.hid Oa; have HD := Lib.hid hb; have hLa : Below w0.heap.size w0 wa := below_step (by first | assumption | exact (Below.refl _ _).drew) hb; have hsa : w0.heap.size ≤ wa.heap.size := Nat.le_trans (by first | exact Nat.le_refl _ | assumption | exact Nat.le_succ_of_le (by assumption) | (simp; done) | (simp; omega)) hb.size; (first | (replace KZ := Lib.hid (KZ.out.step hb)) | (have KZ : Hid (Blk _ w0.heap.size _ _) := Lib.hid ((Blk.new w0.drew _ _).step hb)) | (have KZ := Lib.hid ((Blk.new _ _ _).step hb)) | skip); (try (have y0 := KZ.out.cell 0; have y1 := KZ.out.cell 1; have y2 := KZ.out.cell 2; have yf0 := KZ.out.free 0; have yf1 := KZ.out.free 1; have yf2 := KZ.out.free 2; simp only [List.getElem?_toArray, List.getElem?_cons_zero, List.getElem?_cons_succ] at y0 y1 y2)))
        | (go_at_call_of 133 (Value.slice A2 g.cols.length c2); refine (c_spec_l1Own ((H.out.cols.below HB.out).below (by first | assumption | (refine Below.alloc ?_ (Below.size ?_) _ <;> assumption))) (by omega)).mono ?_; rintro e wb ⟨ub, rfl, Ob, hb⟩; obtain ⟨Ab, cb, rfl, -⟩ := Ob.ints; replace Ob := Lib.hid Ob; have HD := Lib.hid hb; have hLb : Below w0.heap.size w0 wb := below_step (by first | assumption | exact (Below.refl _ _).drew) hb; (try have hka := KZ.out.lt); have hsb : w0.heap.size ≤ wb.heap.size := Nat.le_trans (by first | exact Nat.le_refl _ | assumption | exact Nat.le_succ_of_le (by assumption) | (simp; done) | (simp; omega)) hb.size; (first | (replace KZ := Lib.hid (KZ.out.step hb)) | (have KZ : Hid (Blk _ w0.heap.size _ _) := Lib.hid ((Blk.new w0.drew _ _).step hb)) | (have KZ := Lib.hid ((Blk.new _ _ _).step hb)) | skip); (try (have y0 := KZ.out.cell 0; have y1 := KZ.out.cell 1; have y2 := KZ.out.cell 2; have yf0 := KZ.out.free 0; have yf1 := KZ.out.free 1; have yf2 := KZ.out.free 2; simp only [List.getElem?_toArray, List.getElem?_cons_zero, List.getElem?_cons_succ] at y0 y1 y2))))
    all_goals
      have h1 : OwnI wb w0.heap.size (.slice Aa g.ones.length ca) g.ones := (OwnI.mono (B' := w0.heap.size) Oa.out (by first | exact Nat.le_refl _ | (simp; done))).below (by first | exact HD.out | exact lit_trans HD.out)
      have h2 : OwnI wb w0.heap.size (.slice Ab g.cols.length cb) g.cols := OwnI.mono (B' := w0.heap.size) Ob.out (by first | exact hsa | exact Nat.le_succ_of_le hsa | (simp; omega))
      have h3 : Apt (.slice Aa g.ones.length ca) (.slice Ab g.cols.length cb) := Apt.ofLt Oa.out.lt (fun b hb => Nat.le_trans (by first | exact Nat.le_refl _ | (simp; done)) (Ob.out.ge b hb))
      have h4 := hLb
      go_wp2_with fail
      go_meet
      first
        | exact ⟨_, _, _, rfl, Lib.hid (three_new h1 h2 h3 h4 hsb)⟩
        | exact ⟨_, _, _, rfl, Lib.hid (three_set KZ.out h1 h2 h3 h4 (by rintro u (rfl | rfl) e; (first | (have l2 : w0.heap.size + 1 ≤ _ := Nat.le_trans (by simp) (Oa.out.ge _ e); omega) | (have l1 := Oa.out.lt _ e; omega)); (first | (have l3 := Ob.out.ge _ e; omega) | (have l4 : wa.heap.size + 1 ≤ _ := Nat.le_trans (by simp) (Ob.out.ge _ e); omega))) (by first | exact Nat.le_refl _ | exact hsa))⟩
  case rest =>
    obtain ⟨b, ov, cv, rfl, H3⟩ := hcut
    obtain ⟨W1, hW1⟩ : ∃ W, wc = W := ⟨_, rfl⟩
    rw [hW1] at H3 ⊢
    clear hW1
    have p0 : W1.cell? ⟨w.heap.size, 0, none⟩ = some (.slice A g.rows.length c) := (H3.out.below.cell (p := ⟨w.heap.size, 0, none⟩) HP.out.lt).trans (HP.out.cell 0)
    have HST := Lib.hid H3.out.sta
    have hlo := HST.out.lo
    clear H3
    go_wp2_with fail
    go_loopw [5, 16] (fun s5 i wr => ∃ (j : Nat) (x5 : Value), s5 = x5 ∧ j ≤ g.rows.length ∧ i = .int .i64 j ∧ ∃ rv vs, Hid (Sta 50 wr w0 b rv ov cv vs ⟨g.rows.take j, g.ones, g.cols⟩)) (fun _ i _ => g.rows.length - (intOf i).toNat)
    case atStart => exact ⟨0, _, rfl, Nat.zero_le _, rfl, _, _, by simpa using HST⟩
    case round =>
      obtain ⟨j, x5, rfl, hj, rfl, rv, vs, HO⟩ := hrel
      clear HST p0
      obtain ⟨wa, rfl⟩ : ∃ W, W = wr := ⟨wr, rfl⟩
      have HBa := Lib.hid (HB.out.trans (HO.out.below.mono HB.out.size))
      have hlb := HO.out.below.size
      by_cases hlt : j < g.rows.length
      · obtain ⟨bb, o, A', r, c', rfl, hbl, hrk, hcell, hi⟩ := HAT.out j hlt
        have hc2 := (HBa.out.cell (p := ⟨bb, o + j, none⟩) hbl).trans hcell
        have hrl' := HRL.out r (List.mem_of_getElem? hrk)
        have HI := Lib.hid ((hi.below HBa.out).drew)
        have HRK := Lib.hid hrk
        have hlen : (g.rows.take j).length = j := by simp; omega
        have x0 : wa.cell? ⟨b, 0, none⟩ = some rv := HO.out.blk.cell 0
        have hbl2 := HO.out.blk.lt
        clear hcell hi hrk
        go_wp2_with fail
        go_region_law (first
          | (refine step_app1 (B := w0.heap.size) (by rfl) (by rfl) Tryz.underlying33 info_ints rfl (HOW.out.alloc _) (cell_new w1 _ _) (by rfl) (by rfl) rfl (by unfold maxLen; omega) (by omega) (by simp; omega) ?_; intro v' w2 ho hg hfr; have HN := Lib.hid (HO.out.row (hb1.alloc hb1.size (.cells #[.slice Au r.length cu] 24)) (hu.alloc _) (by rw [hlen]; exact ho) hg hfr); have hk2 := (HS1.out.blk.alloc (.cells #[.slice Au r.length cu] 24)).grown hg (fun e => HS1.out.far rv (by simp) e.symm); have z0 : w2.cell? ⟨b, 0, none⟩ = some rv := hk2.cell 0; have zf := hk2.free 0; clear hk2; obtain ⟨Av, cv9, ev, -⟩ := HN.out.own.rows.rowsIn.form; simp only [List.length_append, hlen, List.length_cons, List.length_nil, Nat.zero_add] at ev; subst ev)
          | (go_simp; go_at_call 133; refine (c_spec_l1Own HI.out (by omega)).mono ?_; rintro e w1 ⟨u, rfl, hu, hb1⟩; obtain ⟨Au, cu, rfl, -⟩ := hu.ints; replace hb1 : Below wa.heap.size wa w1 := below_step ((Below.refl _ _).drew) hb1; have hsz1 := hb1.size; have HS1 := Lib.hid (HO.out.step hb1); have x1 : w1.cell? ⟨b, 0, none⟩ = some rv := HS1.out.blk.cell 0; have x2 : (w1.alloc (.cells #[.slice Au r.length cu] 24)).cell? ⟨b, 0, none⟩ = some rv := (HS1.out.blk.alloc _).cell 0; have hown := HS1.out.own.rows.outer; rw [hlen] at hown; have HOW := Lib.hid hown; clear hown))
        all_goals
          go_wp2
          go_roundw
          case rel => exact ⟨j + 1, _, rfl, by omega, by go_num, _, _, by rw [take_snoc HRK.out]; exact HN⟩
          case measure => simp [intOf]; omega
      · obtain rfl : j = g.rows.length := by omega
        have HO2 : Hid (Sta 50 wa w0 b rv ov cv vs g) := by have h := HO.out; rw [List.take_of_length_le (Nat.le_refl _)] at h; exact h
        clear HO
        obtain ⟨Ar, cr, rfl, -⟩ := HO2.out.own.rows.rowsIn.form
        obtain ⟨Ao, co, rfl, -⟩ := HO2.out.own.ones.ints
        obtain ⟨Ac, cc, rfl, -⟩ := HO2.out.own.cols.ints
        have x0 : wa.cell? ⟨b, 0, none⟩ = some _ := HO2.out.blk.cell 0
        have x1 : wa.cell? ⟨b, 1, none⟩ = some _ := HO2.out.blk.cell 1
        have x2 : wa.cell? ⟨b, 2, none⟩ = some _ := HO2.out.blk.cell 2
        have hR := HR.out.below HO2.out.below HR.out.lt
        have y0 : wa.cell? ⟨w.heap.size + 1, 0, none⟩ = some (.slice none 0 0) := hR.cell 0
        have y1 : wa.cell? ⟨w.heap.size + 1, 1, none⟩ = some (.slice none 0 0) := hR.cell 1
        have y2 : wa.cell? ⟨w.heap.size + 1, 2, none⟩ = some (.slice none 0 0) := hR.cell 2
        have yf0 := hR.free 0
        have yf1 := hR.free 1
        have yf2 := hR.free 2
        have hlow := HR.out.lt
        have hRl := hR.lt
        clear hR
        go_wp2
        refine bodyPost_ret (v := gbV (.slice Ar g.rows.length cr) (.slice Ao g.ones.length co) (.slice Ac g.cols.length cc)) (by simp [results, Tryz.results119, go_sem, gbV, y0, y1, y2]) rfl ⟨_, _, _, vs, rfl, ?_, ?_⟩
        · exact (((HO2.out.own.setLow hlow 0 _).setLow hlow 1 _).setLow hlow 2 _).mono HB.out.size
        · exact ((HBa.out.setCell (p := ⟨w.heap.size + 1, 0, none⟩) (by simp) _).setCell (p := ⟨w.heap.size + 1, 1, none⟩) (by simp) _).setCell (p := ⟨w.heap.size + 1, 2, none⟩) (by simp) _
end Go.Proofs.YtejeppjmlgfiaaaGreat

/- Contracts of the bending of one row. Conditions: the tables are short. -/
namespace Go.Proofs.YtejeppjmlgfiaaaGreat
open Go.RowKit
set_option linter.unusedVariables false

theorem OwnGb.put {w w' : World} {B : Nat} {rv ov cv u : Value} {vs : List Value} {g : Gb} {i : Nat} {r : List Int} (h : OwnGb w B rv ov cv vs g) (hi : vs[i]? = some u) (hg : w.grownBy w' u.ownBlock) (hu : OwnI w' B u r) : OwnGb w' B rv ov cv vs ⟨g.rows.set i r, g.ones, g.cols⟩ := by
  have hap := List.pairwise_cons.1 h.apart
  have hap2 := List.pairwise_cons.1 hap.2
  have hm := List.mem_of_getElem? hi
  exact ⟨h.rows.put hi hg hu, h.ones.grown hg (fun x e e' => hap.1 u (by simp [hm]) x e e'.symm), h.cols.grown hg (fun x e e' => hap2.1 u (by simp [hm]) x e e'.symm), h.apart⟩
def bendM (n lo hi : Int) (c : Cir) (g : Gb) (k row m : Int) : Option Gb := if cirB c && tabB n c g && inB k 0 ((g.rows.length : Int) - 1) && inB row lo hi && inB m 0 65535 then some (bendG g k.toNat (row - lo).toNat m) else none
theorem bend_row {n : Int} {c : Cir} {g : Gb} {k : Nat} (h : tabB n c g = true) (hk : k < g.rows.length) : ((g.rows.getD k []).length : Int) = n ∧ ∀ x ∈ g.rows.getD k [], 0 ≤ x ∧ x ≤ 65535 := by
  have e : g.rows.getD k [] = g.rows[k] := by rw [List.getD_eq_getElem?_getD, List.getElem?_eq_getElem hk]; rfl
  rw [e]; exact (tabB_of h).2.1 _ (List.getElem_mem hk)
set_option maxRecDepth 100000 in
set_option maxHeartbeats 4000000 in
theorem c_impl_BendRow {c : Cir} {g : Gb} {gv qv rv nv cv : Value} {w : World} {k row m : Int} (hC : CirIn w gv qv c) (h : GbIn w rv nv cv g) (hs : g.sz ≤ 1048576) :
    Calls Tryz.prog 43 #[cirV c gv qv, gbV rv nv cv, .int .i64 k, .int .i64 row, .int .i64 m] w (RetGbB w (bendM 3 1 3 c g k row m)) := by
  have H := Lib.hid h
  have HS := Lib.hid hs
  obtain ⟨hrw, ho, hc⟩ := h
  obtain ⟨A, c9, rfl, -⟩ := hrw.form
  obtain ⟨A1, c1, rfl, -⟩ := ho
  obtain ⟨A2, c2, rfl, -⟩ := hc
  have hol : g.ones.length ≤ 1048576 := by unfold Gb.sz at hs; omega
  have hcl : g.cols.length ≤ 1048576 := by unfold Gb.sz at hs; omega
  have hrl : g.rows.length ≤ 1048576 := by unfold Gb.sz at hs; omega
  have HRL := Lib.hid (Gb.row_le hs)
  obtain ⟨A', c', e', hlc, hcm, hat⟩ := hrw.form
  injection e' with e1 e2 e3
  subst e1 e3
  have HAT := Lib.hid hat
  clear hrw hs hat
  have HC := Lib.hid hC
  obtain ⟨hg, ho⟩ := hC
  obtain ⟨Ag, cg, rfl, -⟩ := hg
  obtain ⟨Aq, cq, rfl, -⟩ := ho
  unfold cirV gbV
  obtain ⟨w0, hw0⟩ : ∃ W, (((w.alloc (.cells #[.int .i64 c.i0, .int .i64 c.i1, .slice Ag c.gs.length cg, .slice Aq c.outs.length cq] 26)).alloc (.cells #[.slice A g.rows.length c9, .slice A1 g.ones.length c1, .slice A2 g.cols.length c2] 50)).alloc (.cells #[.slice none 0 0, .slice none 0 0, .slice none 0 0] 50)) = W := ⟨_, rfl⟩
  have HK0 : Hid (Blk w0 w.heap.size 26 #[.int .i64 c.i0, .int .i64 c.i1, .slice Ag c.gs.length cg, .slice Aq c.outs.length cq]) := by rw [← hw0]; exact ((Blk.new _ _ _).alloc _).alloc _
  have HK1 : Hid (Blk w0 (w.heap.size + 1) 50 #[.slice A g.rows.length c9, .slice A1 g.ones.length c1, .slice A2 g.cols.length c2]) := by rw [← hw0]; have := (Blk.new (w.alloc (.cells #[.int .i64 c.i0, .int .i64 c.i1, .slice Ag c.gs.length cg, .slice Aq c.outs.length cq] 26)) 50 #[.slice A g.rows.length c9, .slice A1 g.ones.length c1, .slice A2 g.cols.length c2]).alloc (.cells #[.slice none 0 0, .slice none 0 0, .slice none 0 0] 50); simp only [World.size_alloc] at this; exact this
  have HK2 : Hid (Blk w0 (w.heap.size + 1 + 1) 50 #[.slice none 0 0, .slice none 0 0, .slice none 0 0]) := by rw [← hw0]; have := Blk.new ((w.alloc (.cells #[.int .i64 c.i0, .int .i64 c.i1, .slice Ag c.gs.length cg, .slice Aq c.outs.length cq] 26)).alloc (.cells #[.slice A g.rows.length c9, .slice A1 g.ones.length c1, .slice A2 g.cols.length c2] 50)) 50 #[.slice none 0 0, .slice none 0 0, .slice none 0 0]; simp only [World.size_alloc] at this; exact this
  have HB : Hid (Below w.heap.size w w0) := by rw [← hw0]; exact (((Below.refl _ _).alloc (Nat.le_refl _) _).alloc (by simp) _).alloc (by simp; omega) _
  rcases k1 : cirB c with _ | _
  · skip
    have HM := Lib.hid (show bendM 3 1 3 c g k row m = none by unfold bendM; simp [k1])
    have xa0 : w0.cell? ⟨w.heap.size, 0, none⟩ = some (.int .i64 c.i0) := HK0.out.cell 0
    have xa1 : w0.cell? ⟨w.heap.size, 1, none⟩ = some (.int .i64 c.i1) := HK0.out.cell 1
    have xa2 : w0.cell? ⟨w.heap.size, 2, none⟩ = some (.slice Ag c.gs.length cg) := HK0.out.cell 2
    have xa3 : w0.cell? ⟨w.heap.size, 3, none⟩ = some (.slice Aq c.outs.length cq) := HK0.out.cell 3
    have xb0 : w0.cell? ⟨w.heap.size + 1, 0, none⟩ = some (.slice A g.rows.length c9) := HK1.out.cell 0
    have xb1 : w0.cell? ⟨w.heap.size + 1, 1, none⟩ = some (.slice A1 g.ones.length c1) := HK1.out.cell 1
    have xb2 : w0.cell? ⟨w.heap.size + 1, 2, none⟩ = some (.slice A2 g.cols.length c2) := HK1.out.cell 2
    have xr0 : w0.cell? ⟨w.heap.size + 1 + 1, 0, none⟩ = some (.slice none 0 0) := HK2.out.cell 0
    have xrf0 : w0.frozen? ⟨w.heap.size + 1 + 1, 0, none⟩ = false := HK2.out.free 0
    have xr1 : w0.cell? ⟨w.heap.size + 1 + 1, 1, none⟩ = some (.slice none 0 0) := HK2.out.cell 1
    have xrf1 : w0.frozen? ⟨w.heap.size + 1 + 1, 1, none⟩ = false := HK2.out.free 1
    have xr2 : w0.cell? ⟨w.heap.size + 1 + 1, 2, none⟩ = some (.slice none 0 0) := HK2.out.cell 2
    have xrf2 : w0.frozen? ⟨w.heap.size + 1 + 1, 2, none⟩ = false := HK2.out.free 2
    go_enter Tryz.func43, Tryz.ntmps43
    go_wp2_with fail
    clear hw0
    refine (c_impl_IsCircuit (HC.out.below HB.out)).mono ?_
    rintro e wz ⟨rfl, hb⟩
    clear xa0 xa1 xa2 xa3 xb0 xb1 xb2 xr0 xr1 xr2 xrf0 xrf1 xrf2
    replace HK0 := Lib.hid (HK0.out.step hb)
    replace HK1 := Lib.hid (HK1.out.step hb)
    replace HK2 := Lib.hid (HK2.out.step hb)
    replace HB := Lib.hid (below_step HB.out hb)
    clear hb
    have xa0 : wz.cell? ⟨w.heap.size, 0, none⟩ = some (.int .i64 c.i0) := HK0.out.cell 0
    have xa1 : wz.cell? ⟨w.heap.size, 1, none⟩ = some (.int .i64 c.i1) := HK0.out.cell 1
    have xa2 : wz.cell? ⟨w.heap.size, 2, none⟩ = some (.slice Ag c.gs.length cg) := HK0.out.cell 2
    have xa3 : wz.cell? ⟨w.heap.size, 3, none⟩ = some (.slice Aq c.outs.length cq) := HK0.out.cell 3
    have xb0 : wz.cell? ⟨w.heap.size + 1, 0, none⟩ = some (.slice A g.rows.length c9) := HK1.out.cell 0
    have xb1 : wz.cell? ⟨w.heap.size + 1, 1, none⟩ = some (.slice A1 g.ones.length c1) := HK1.out.cell 1
    have xb2 : wz.cell? ⟨w.heap.size + 1, 2, none⟩ = some (.slice A2 g.cols.length c2) := HK1.out.cell 2
    have xr0 : wz.cell? ⟨w.heap.size + 1 + 1, 0, none⟩ = some (.slice none 0 0) := HK2.out.cell 0
    have xrf0 : wz.frozen? ⟨w.heap.size + 1 + 1, 0, none⟩ = false := HK2.out.free 0
    have xr1 : wz.cell? ⟨w.heap.size + 1 + 1, 1, none⟩ = some (.slice none 0 0) := HK2.out.cell 1
    have xrf1 : wz.frozen? ⟨w.heap.size + 1 + 1, 1, none⟩ = false := HK2.out.free 1
    have xr2 : wz.cell? ⟨w.heap.size + 1 + 1, 2, none⟩ = some (.slice none 0 0) := HK2.out.cell 2
    have xrf2 : wz.frozen? ⟨w.heap.size + 1 + 1, 2, none⟩ = false := HK2.out.free 2
    go_wp2
    refine bodyPost_ret (v := .tuple #[gbV (.slice none 0 0) (.slice none 0 0) (.slice none 0 0), .bool false]) (by simp [results, Tryz.results43, go_sem, gbV, xr0, xr1, xr2]) rfl ?_
    rw [HM.out]
    exact RetGbB.no (((HB.out.setCell (p := ⟨w.heap.size + 1 + 1, 0, none⟩) (by simp; omega) _).setCell (p := ⟨w.heap.size + 1 + 1, 1, none⟩) (by simp; omega) _).setCell (p := ⟨w.heap.size + 1 + 1, 2, none⟩) (by simp; omega) _)
  rcases k2 : tabB 3 c g with _ | _
  · skip
    have HM := Lib.hid (show bendM 3 1 3 c g k row m = none by unfold bendM; simp [k1, k2])
    have xa0 : w0.cell? ⟨w.heap.size, 0, none⟩ = some (.int .i64 c.i0) := HK0.out.cell 0
    have xa1 : w0.cell? ⟨w.heap.size, 1, none⟩ = some (.int .i64 c.i1) := HK0.out.cell 1
    have xa2 : w0.cell? ⟨w.heap.size, 2, none⟩ = some (.slice Ag c.gs.length cg) := HK0.out.cell 2
    have xa3 : w0.cell? ⟨w.heap.size, 3, none⟩ = some (.slice Aq c.outs.length cq) := HK0.out.cell 3
    have xb0 : w0.cell? ⟨w.heap.size + 1, 0, none⟩ = some (.slice A g.rows.length c9) := HK1.out.cell 0
    have xb1 : w0.cell? ⟨w.heap.size + 1, 1, none⟩ = some (.slice A1 g.ones.length c1) := HK1.out.cell 1
    have xb2 : w0.cell? ⟨w.heap.size + 1, 2, none⟩ = some (.slice A2 g.cols.length c2) := HK1.out.cell 2
    have xr0 : w0.cell? ⟨w.heap.size + 1 + 1, 0, none⟩ = some (.slice none 0 0) := HK2.out.cell 0
    have xrf0 : w0.frozen? ⟨w.heap.size + 1 + 1, 0, none⟩ = false := HK2.out.free 0
    have xr1 : w0.cell? ⟨w.heap.size + 1 + 1, 1, none⟩ = some (.slice none 0 0) := HK2.out.cell 1
    have xrf1 : w0.frozen? ⟨w.heap.size + 1 + 1, 1, none⟩ = false := HK2.out.free 1
    have xr2 : w0.cell? ⟨w.heap.size + 1 + 1, 2, none⟩ = some (.slice none 0 0) := HK2.out.cell 2
    have xrf2 : w0.frozen? ⟨w.heap.size + 1 + 1, 2, none⟩ = false := HK2.out.free 2
    go_enter Tryz.func43, Tryz.ntmps43
    go_wp2_with fail
    clear hw0
    refine (c_impl_IsCircuit (HC.out.below HB.out)).mono ?_
    rintro e u0 ⟨rfl, hb⟩
    clear xa0 xa1 xa2 xa3 xb0 xb1 xb2 xr0 xr1 xr2 xrf0 xrf1 xrf2
    replace HK0 := Lib.hid (HK0.out.step hb)
    replace HK1 := Lib.hid (HK1.out.step hb)
    replace HK2 := Lib.hid (HK2.out.step hb)
    replace HB := Lib.hid (below_step HB.out hb)
    clear hb
    have xa0 : u0.cell? ⟨w.heap.size, 0, none⟩ = some (.int .i64 c.i0) := HK0.out.cell 0
    have xa1 : u0.cell? ⟨w.heap.size, 1, none⟩ = some (.int .i64 c.i1) := HK0.out.cell 1
    have xa2 : u0.cell? ⟨w.heap.size, 2, none⟩ = some (.slice Ag c.gs.length cg) := HK0.out.cell 2
    have xa3 : u0.cell? ⟨w.heap.size, 3, none⟩ = some (.slice Aq c.outs.length cq) := HK0.out.cell 3
    have xb0 : u0.cell? ⟨w.heap.size + 1, 0, none⟩ = some (.slice A g.rows.length c9) := HK1.out.cell 0
    have xb1 : u0.cell? ⟨w.heap.size + 1, 1, none⟩ = some (.slice A1 g.ones.length c1) := HK1.out.cell 1
    have xb2 : u0.cell? ⟨w.heap.size + 1, 2, none⟩ = some (.slice A2 g.cols.length c2) := HK1.out.cell 2
    have xr0 : u0.cell? ⟨w.heap.size + 1 + 1, 0, none⟩ = some (.slice none 0 0) := HK2.out.cell 0
    have xrf0 : u0.frozen? ⟨w.heap.size + 1 + 1, 0, none⟩ = false := HK2.out.free 0
    have xr1 : u0.cell? ⟨w.heap.size + 1 + 1, 1, none⟩ = some (.slice none 0 0) := HK2.out.cell 1
    have xrf1 : u0.frozen? ⟨w.heap.size + 1 + 1, 1, none⟩ = false := HK2.out.free 1
    have xr2 : u0.cell? ⟨w.heap.size + 1 + 1, 2, none⟩ = some (.slice none 0 0) := HK2.out.cell 2
    have xrf2 : u0.frozen? ⟨w.heap.size + 1 + 1, 2, none⟩ = false := HK2.out.free 2
    go_wp2_with fail
    refine (c_impl_areTables (HC.out.below HB.out) k1 (H.out.below HB.out) HS.out).mono ?_
    rintro e wz ⟨rfl, hb⟩
    clear xa0 xa1 xa2 xa3 xb0 xb1 xb2 xr0 xr1 xr2 xrf0 xrf1 xrf2
    replace HK0 := Lib.hid (HK0.out.step hb)
    replace HK1 := Lib.hid (HK1.out.step hb)
    replace HK2 := Lib.hid (HK2.out.step hb)
    replace HB := Lib.hid (below_step HB.out hb)
    clear hb
    have xa0 : wz.cell? ⟨w.heap.size, 0, none⟩ = some (.int .i64 c.i0) := HK0.out.cell 0
    have xa1 : wz.cell? ⟨w.heap.size, 1, none⟩ = some (.int .i64 c.i1) := HK0.out.cell 1
    have xa2 : wz.cell? ⟨w.heap.size, 2, none⟩ = some (.slice Ag c.gs.length cg) := HK0.out.cell 2
    have xa3 : wz.cell? ⟨w.heap.size, 3, none⟩ = some (.slice Aq c.outs.length cq) := HK0.out.cell 3
    have xb0 : wz.cell? ⟨w.heap.size + 1, 0, none⟩ = some (.slice A g.rows.length c9) := HK1.out.cell 0
    have xb1 : wz.cell? ⟨w.heap.size + 1, 1, none⟩ = some (.slice A1 g.ones.length c1) := HK1.out.cell 1
    have xb2 : wz.cell? ⟨w.heap.size + 1, 2, none⟩ = some (.slice A2 g.cols.length c2) := HK1.out.cell 2
    have xr0 : wz.cell? ⟨w.heap.size + 1 + 1, 0, none⟩ = some (.slice none 0 0) := HK2.out.cell 0
    have xrf0 : wz.frozen? ⟨w.heap.size + 1 + 1, 0, none⟩ = false := HK2.out.free 0
    have xr1 : wz.cell? ⟨w.heap.size + 1 + 1, 1, none⟩ = some (.slice none 0 0) := HK2.out.cell 1
    have xrf1 : wz.frozen? ⟨w.heap.size + 1 + 1, 1, none⟩ = false := HK2.out.free 1
    have xr2 : wz.cell? ⟨w.heap.size + 1 + 1, 2, none⟩ = some (.slice none 0 0) := HK2.out.cell 2
    have xrf2 : wz.frozen? ⟨w.heap.size + 1 + 1, 2, none⟩ = false := HK2.out.free 2
    go_wp2
    refine bodyPost_ret (v := .tuple #[gbV (.slice none 0 0) (.slice none 0 0) (.slice none 0 0), .bool false]) (by simp [results, Tryz.results43, go_sem, gbV, xr0, xr1, xr2]) rfl ?_
    rw [HM.out]
    exact RetGbB.no (((HB.out.setCell (p := ⟨w.heap.size + 1 + 1, 0, none⟩) (by simp; omega) _).setCell (p := ⟨w.heap.size + 1 + 1, 1, none⟩) (by simp; omega) _).setCell (p := ⟨w.heap.size + 1 + 1, 2, none⟩) (by simp; omega) _)
  rcases k3 : inB k 0 ((g.rows.length : Int) - 1) with _ | _
  · skip
    have HM := Lib.hid (show bendM 3 1 3 c g k row m = none by unfold bendM; simp [k1, k2, k3])
    have xa0 : w0.cell? ⟨w.heap.size, 0, none⟩ = some (.int .i64 c.i0) := HK0.out.cell 0
    have xa1 : w0.cell? ⟨w.heap.size, 1, none⟩ = some (.int .i64 c.i1) := HK0.out.cell 1
    have xa2 : w0.cell? ⟨w.heap.size, 2, none⟩ = some (.slice Ag c.gs.length cg) := HK0.out.cell 2
    have xa3 : w0.cell? ⟨w.heap.size, 3, none⟩ = some (.slice Aq c.outs.length cq) := HK0.out.cell 3
    have xb0 : w0.cell? ⟨w.heap.size + 1, 0, none⟩ = some (.slice A g.rows.length c9) := HK1.out.cell 0
    have xb1 : w0.cell? ⟨w.heap.size + 1, 1, none⟩ = some (.slice A1 g.ones.length c1) := HK1.out.cell 1
    have xb2 : w0.cell? ⟨w.heap.size + 1, 2, none⟩ = some (.slice A2 g.cols.length c2) := HK1.out.cell 2
    have xr0 : w0.cell? ⟨w.heap.size + 1 + 1, 0, none⟩ = some (.slice none 0 0) := HK2.out.cell 0
    have xrf0 : w0.frozen? ⟨w.heap.size + 1 + 1, 0, none⟩ = false := HK2.out.free 0
    have xr1 : w0.cell? ⟨w.heap.size + 1 + 1, 1, none⟩ = some (.slice none 0 0) := HK2.out.cell 1
    have xrf1 : w0.frozen? ⟨w.heap.size + 1 + 1, 1, none⟩ = false := HK2.out.free 1
    have xr2 : w0.cell? ⟨w.heap.size + 1 + 1, 2, none⟩ = some (.slice none 0 0) := HK2.out.cell 2
    have xrf2 : w0.frozen? ⟨w.heap.size + 1 + 1, 2, none⟩ = false := HK2.out.free 2
    go_enter Tryz.func43, Tryz.ntmps43
    go_wp2_with fail
    clear hw0
    refine (c_impl_IsCircuit (HC.out.below HB.out)).mono ?_
    rintro e u0 ⟨rfl, hb⟩
    clear xa0 xa1 xa2 xa3 xb0 xb1 xb2 xr0 xr1 xr2 xrf0 xrf1 xrf2
    replace HK0 := Lib.hid (HK0.out.step hb)
    replace HK1 := Lib.hid (HK1.out.step hb)
    replace HK2 := Lib.hid (HK2.out.step hb)
    replace HB := Lib.hid (below_step HB.out hb)
    clear hb
    have xa0 : u0.cell? ⟨w.heap.size, 0, none⟩ = some (.int .i64 c.i0) := HK0.out.cell 0
    have xa1 : u0.cell? ⟨w.heap.size, 1, none⟩ = some (.int .i64 c.i1) := HK0.out.cell 1
    have xa2 : u0.cell? ⟨w.heap.size, 2, none⟩ = some (.slice Ag c.gs.length cg) := HK0.out.cell 2
    have xa3 : u0.cell? ⟨w.heap.size, 3, none⟩ = some (.slice Aq c.outs.length cq) := HK0.out.cell 3
    have xb0 : u0.cell? ⟨w.heap.size + 1, 0, none⟩ = some (.slice A g.rows.length c9) := HK1.out.cell 0
    have xb1 : u0.cell? ⟨w.heap.size + 1, 1, none⟩ = some (.slice A1 g.ones.length c1) := HK1.out.cell 1
    have xb2 : u0.cell? ⟨w.heap.size + 1, 2, none⟩ = some (.slice A2 g.cols.length c2) := HK1.out.cell 2
    have xr0 : u0.cell? ⟨w.heap.size + 1 + 1, 0, none⟩ = some (.slice none 0 0) := HK2.out.cell 0
    have xrf0 : u0.frozen? ⟨w.heap.size + 1 + 1, 0, none⟩ = false := HK2.out.free 0
    have xr1 : u0.cell? ⟨w.heap.size + 1 + 1, 1, none⟩ = some (.slice none 0 0) := HK2.out.cell 1
    have xrf1 : u0.frozen? ⟨w.heap.size + 1 + 1, 1, none⟩ = false := HK2.out.free 1
    have xr2 : u0.cell? ⟨w.heap.size + 1 + 1, 2, none⟩ = some (.slice none 0 0) := HK2.out.cell 2
    have xrf2 : u0.frozen? ⟨w.heap.size + 1 + 1, 2, none⟩ = false := HK2.out.free 2
    go_wp2_with fail
    refine (c_impl_areTables (HC.out.below HB.out) k1 (H.out.below HB.out) HS.out).mono ?_
    rintro e wz ⟨rfl, hb⟩
    clear xa0 xa1 xa2 xa3 xb0 xb1 xb2 xr0 xr1 xr2 xrf0 xrf1 xrf2
    replace HK0 := Lib.hid (HK0.out.step hb)
    replace HK1 := Lib.hid (HK1.out.step hb)
    replace HK2 := Lib.hid (HK2.out.step hb)
    replace HB := Lib.hid (below_step HB.out hb)
    clear hb
    have xa0 : wz.cell? ⟨w.heap.size, 0, none⟩ = some (.int .i64 c.i0) := HK0.out.cell 0
    have xa1 : wz.cell? ⟨w.heap.size, 1, none⟩ = some (.int .i64 c.i1) := HK0.out.cell 1
    have xa2 : wz.cell? ⟨w.heap.size, 2, none⟩ = some (.slice Ag c.gs.length cg) := HK0.out.cell 2
    have xa3 : wz.cell? ⟨w.heap.size, 3, none⟩ = some (.slice Aq c.outs.length cq) := HK0.out.cell 3
    have xb0 : wz.cell? ⟨w.heap.size + 1, 0, none⟩ = some (.slice A g.rows.length c9) := HK1.out.cell 0
    have xb1 : wz.cell? ⟨w.heap.size + 1, 1, none⟩ = some (.slice A1 g.ones.length c1) := HK1.out.cell 1
    have xb2 : wz.cell? ⟨w.heap.size + 1, 2, none⟩ = some (.slice A2 g.cols.length c2) := HK1.out.cell 2
    have xr0 : wz.cell? ⟨w.heap.size + 1 + 1, 0, none⟩ = some (.slice none 0 0) := HK2.out.cell 0
    have xrf0 : wz.frozen? ⟨w.heap.size + 1 + 1, 0, none⟩ = false := HK2.out.free 0
    have xr1 : wz.cell? ⟨w.heap.size + 1 + 1, 1, none⟩ = some (.slice none 0 0) := HK2.out.cell 1
    have xrf1 : wz.frozen? ⟨w.heap.size + 1 + 1, 1, none⟩ = false := HK2.out.free 1
    have xr2 : wz.cell? ⟨w.heap.size + 1 + 1, 2, none⟩ = some (.slice none 0 0) := HK2.out.cell 2
    have xrf2 : wz.frozen? ⟨w.heap.size + 1 + 1, 2, none⟩ = false := HK2.out.free 2
    go_wp2_with fail
    refine (c_impl_within).mono ?_
    rintro e w' ⟨rfl, rfl⟩
    go_wp2
    refine bodyPost_ret (v := .tuple #[gbV (.slice none 0 0) (.slice none 0 0) (.slice none 0 0), .bool false]) (by simp [results, Tryz.results43, go_sem, gbV, xr0, xr1, xr2]) rfl ?_
    rw [HM.out]
    exact RetGbB.no (((HB.out.setCell (p := ⟨w.heap.size + 1 + 1, 0, none⟩) (by simp; omega) _).setCell (p := ⟨w.heap.size + 1 + 1, 1, none⟩) (by simp; omega) _).setCell (p := ⟨w.heap.size + 1 + 1, 2, none⟩) (by simp; omega) _)
  rcases k4 : inB row 1 3 with _ | _
  · skip
    have HM := Lib.hid (show bendM 3 1 3 c g k row m = none by unfold bendM; simp [k1, k2, k3, k4])
    have xa0 : w0.cell? ⟨w.heap.size, 0, none⟩ = some (.int .i64 c.i0) := HK0.out.cell 0
    have xa1 : w0.cell? ⟨w.heap.size, 1, none⟩ = some (.int .i64 c.i1) := HK0.out.cell 1
    have xa2 : w0.cell? ⟨w.heap.size, 2, none⟩ = some (.slice Ag c.gs.length cg) := HK0.out.cell 2
    have xa3 : w0.cell? ⟨w.heap.size, 3, none⟩ = some (.slice Aq c.outs.length cq) := HK0.out.cell 3
    have xb0 : w0.cell? ⟨w.heap.size + 1, 0, none⟩ = some (.slice A g.rows.length c9) := HK1.out.cell 0
    have xb1 : w0.cell? ⟨w.heap.size + 1, 1, none⟩ = some (.slice A1 g.ones.length c1) := HK1.out.cell 1
    have xb2 : w0.cell? ⟨w.heap.size + 1, 2, none⟩ = some (.slice A2 g.cols.length c2) := HK1.out.cell 2
    have xr0 : w0.cell? ⟨w.heap.size + 1 + 1, 0, none⟩ = some (.slice none 0 0) := HK2.out.cell 0
    have xrf0 : w0.frozen? ⟨w.heap.size + 1 + 1, 0, none⟩ = false := HK2.out.free 0
    have xr1 : w0.cell? ⟨w.heap.size + 1 + 1, 1, none⟩ = some (.slice none 0 0) := HK2.out.cell 1
    have xrf1 : w0.frozen? ⟨w.heap.size + 1 + 1, 1, none⟩ = false := HK2.out.free 1
    have xr2 : w0.cell? ⟨w.heap.size + 1 + 1, 2, none⟩ = some (.slice none 0 0) := HK2.out.cell 2
    have xrf2 : w0.frozen? ⟨w.heap.size + 1 + 1, 2, none⟩ = false := HK2.out.free 2
    go_enter Tryz.func43, Tryz.ntmps43
    go_wp2_with fail
    clear hw0
    refine (c_impl_IsCircuit (HC.out.below HB.out)).mono ?_
    rintro e u0 ⟨rfl, hb⟩
    clear xa0 xa1 xa2 xa3 xb0 xb1 xb2 xr0 xr1 xr2 xrf0 xrf1 xrf2
    replace HK0 := Lib.hid (HK0.out.step hb)
    replace HK1 := Lib.hid (HK1.out.step hb)
    replace HK2 := Lib.hid (HK2.out.step hb)
    replace HB := Lib.hid (below_step HB.out hb)
    clear hb
    have xa0 : u0.cell? ⟨w.heap.size, 0, none⟩ = some (.int .i64 c.i0) := HK0.out.cell 0
    have xa1 : u0.cell? ⟨w.heap.size, 1, none⟩ = some (.int .i64 c.i1) := HK0.out.cell 1
    have xa2 : u0.cell? ⟨w.heap.size, 2, none⟩ = some (.slice Ag c.gs.length cg) := HK0.out.cell 2
    have xa3 : u0.cell? ⟨w.heap.size, 3, none⟩ = some (.slice Aq c.outs.length cq) := HK0.out.cell 3
    have xb0 : u0.cell? ⟨w.heap.size + 1, 0, none⟩ = some (.slice A g.rows.length c9) := HK1.out.cell 0
    have xb1 : u0.cell? ⟨w.heap.size + 1, 1, none⟩ = some (.slice A1 g.ones.length c1) := HK1.out.cell 1
    have xb2 : u0.cell? ⟨w.heap.size + 1, 2, none⟩ = some (.slice A2 g.cols.length c2) := HK1.out.cell 2
    have xr0 : u0.cell? ⟨w.heap.size + 1 + 1, 0, none⟩ = some (.slice none 0 0) := HK2.out.cell 0
    have xrf0 : u0.frozen? ⟨w.heap.size + 1 + 1, 0, none⟩ = false := HK2.out.free 0
    have xr1 : u0.cell? ⟨w.heap.size + 1 + 1, 1, none⟩ = some (.slice none 0 0) := HK2.out.cell 1
    have xrf1 : u0.frozen? ⟨w.heap.size + 1 + 1, 1, none⟩ = false := HK2.out.free 1
    have xr2 : u0.cell? ⟨w.heap.size + 1 + 1, 2, none⟩ = some (.slice none 0 0) := HK2.out.cell 2
    have xrf2 : u0.frozen? ⟨w.heap.size + 1 + 1, 2, none⟩ = false := HK2.out.free 2
    go_wp2_with fail
    refine (c_impl_areTables (HC.out.below HB.out) k1 (H.out.below HB.out) HS.out).mono ?_
    rintro e wz ⟨rfl, hb⟩
    clear xa0 xa1 xa2 xa3 xb0 xb1 xb2 xr0 xr1 xr2 xrf0 xrf1 xrf2
    replace HK0 := Lib.hid (HK0.out.step hb)
    replace HK1 := Lib.hid (HK1.out.step hb)
    replace HK2 := Lib.hid (HK2.out.step hb)
    replace HB := Lib.hid (below_step HB.out hb)
    clear hb
    have xa0 : wz.cell? ⟨w.heap.size, 0, none⟩ = some (.int .i64 c.i0) := HK0.out.cell 0
    have xa1 : wz.cell? ⟨w.heap.size, 1, none⟩ = some (.int .i64 c.i1) := HK0.out.cell 1
    have xa2 : wz.cell? ⟨w.heap.size, 2, none⟩ = some (.slice Ag c.gs.length cg) := HK0.out.cell 2
    have xa3 : wz.cell? ⟨w.heap.size, 3, none⟩ = some (.slice Aq c.outs.length cq) := HK0.out.cell 3
    have xb0 : wz.cell? ⟨w.heap.size + 1, 0, none⟩ = some (.slice A g.rows.length c9) := HK1.out.cell 0
    have xb1 : wz.cell? ⟨w.heap.size + 1, 1, none⟩ = some (.slice A1 g.ones.length c1) := HK1.out.cell 1
    have xb2 : wz.cell? ⟨w.heap.size + 1, 2, none⟩ = some (.slice A2 g.cols.length c2) := HK1.out.cell 2
    have xr0 : wz.cell? ⟨w.heap.size + 1 + 1, 0, none⟩ = some (.slice none 0 0) := HK2.out.cell 0
    have xrf0 : wz.frozen? ⟨w.heap.size + 1 + 1, 0, none⟩ = false := HK2.out.free 0
    have xr1 : wz.cell? ⟨w.heap.size + 1 + 1, 1, none⟩ = some (.slice none 0 0) := HK2.out.cell 1
    have xrf1 : wz.frozen? ⟨w.heap.size + 1 + 1, 1, none⟩ = false := HK2.out.free 1
    have xr2 : wz.cell? ⟨w.heap.size + 1 + 1, 2, none⟩ = some (.slice none 0 0) := HK2.out.cell 2
    have xrf2 : wz.frozen? ⟨w.heap.size + 1 + 1, 2, none⟩ = false := HK2.out.free 2
    go_wp2_with fail
    refine (c_impl_within).mono ?_
    rintro e w' ⟨rfl, rfl⟩
    go_wp2_with fail
    refine (c_impl_within).mono ?_
    rintro e w' ⟨rfl, rfl⟩
    go_wp2
    refine bodyPost_ret (v := .tuple #[gbV (.slice none 0 0) (.slice none 0 0) (.slice none 0 0), .bool false]) (by simp [results, Tryz.results43, go_sem, gbV, xr0, xr1, xr2]) rfl ?_
    rw [HM.out]
    exact RetGbB.no (((HB.out.setCell (p := ⟨w.heap.size + 1 + 1, 0, none⟩) (by simp; omega) _).setCell (p := ⟨w.heap.size + 1 + 1, 1, none⟩) (by simp; omega) _).setCell (p := ⟨w.heap.size + 1 + 1, 2, none⟩) (by simp; omega) _)
  rcases k5 : inB m 0 65535 with _ | _
  · skip
    have HM := Lib.hid (show bendM 3 1 3 c g k row m = none by unfold bendM; simp [k1, k2, k3, k4, k5])
    have xa0 : w0.cell? ⟨w.heap.size, 0, none⟩ = some (.int .i64 c.i0) := HK0.out.cell 0
    have xa1 : w0.cell? ⟨w.heap.size, 1, none⟩ = some (.int .i64 c.i1) := HK0.out.cell 1
    have xa2 : w0.cell? ⟨w.heap.size, 2, none⟩ = some (.slice Ag c.gs.length cg) := HK0.out.cell 2
    have xa3 : w0.cell? ⟨w.heap.size, 3, none⟩ = some (.slice Aq c.outs.length cq) := HK0.out.cell 3
    have xb0 : w0.cell? ⟨w.heap.size + 1, 0, none⟩ = some (.slice A g.rows.length c9) := HK1.out.cell 0
    have xb1 : w0.cell? ⟨w.heap.size + 1, 1, none⟩ = some (.slice A1 g.ones.length c1) := HK1.out.cell 1
    have xb2 : w0.cell? ⟨w.heap.size + 1, 2, none⟩ = some (.slice A2 g.cols.length c2) := HK1.out.cell 2
    have xr0 : w0.cell? ⟨w.heap.size + 1 + 1, 0, none⟩ = some (.slice none 0 0) := HK2.out.cell 0
    have xrf0 : w0.frozen? ⟨w.heap.size + 1 + 1, 0, none⟩ = false := HK2.out.free 0
    have xr1 : w0.cell? ⟨w.heap.size + 1 + 1, 1, none⟩ = some (.slice none 0 0) := HK2.out.cell 1
    have xrf1 : w0.frozen? ⟨w.heap.size + 1 + 1, 1, none⟩ = false := HK2.out.free 1
    have xr2 : w0.cell? ⟨w.heap.size + 1 + 1, 2, none⟩ = some (.slice none 0 0) := HK2.out.cell 2
    have xrf2 : w0.frozen? ⟨w.heap.size + 1 + 1, 2, none⟩ = false := HK2.out.free 2
    go_enter Tryz.func43, Tryz.ntmps43
    go_wp2_with fail
    clear hw0
    refine (c_impl_IsCircuit (HC.out.below HB.out)).mono ?_
    rintro e u0 ⟨rfl, hb⟩
    clear xa0 xa1 xa2 xa3 xb0 xb1 xb2 xr0 xr1 xr2 xrf0 xrf1 xrf2
    replace HK0 := Lib.hid (HK0.out.step hb)
    replace HK1 := Lib.hid (HK1.out.step hb)
    replace HK2 := Lib.hid (HK2.out.step hb)
    replace HB := Lib.hid (below_step HB.out hb)
    clear hb
    have xa0 : u0.cell? ⟨w.heap.size, 0, none⟩ = some (.int .i64 c.i0) := HK0.out.cell 0
    have xa1 : u0.cell? ⟨w.heap.size, 1, none⟩ = some (.int .i64 c.i1) := HK0.out.cell 1
    have xa2 : u0.cell? ⟨w.heap.size, 2, none⟩ = some (.slice Ag c.gs.length cg) := HK0.out.cell 2
    have xa3 : u0.cell? ⟨w.heap.size, 3, none⟩ = some (.slice Aq c.outs.length cq) := HK0.out.cell 3
    have xb0 : u0.cell? ⟨w.heap.size + 1, 0, none⟩ = some (.slice A g.rows.length c9) := HK1.out.cell 0
    have xb1 : u0.cell? ⟨w.heap.size + 1, 1, none⟩ = some (.slice A1 g.ones.length c1) := HK1.out.cell 1
    have xb2 : u0.cell? ⟨w.heap.size + 1, 2, none⟩ = some (.slice A2 g.cols.length c2) := HK1.out.cell 2
    have xr0 : u0.cell? ⟨w.heap.size + 1 + 1, 0, none⟩ = some (.slice none 0 0) := HK2.out.cell 0
    have xrf0 : u0.frozen? ⟨w.heap.size + 1 + 1, 0, none⟩ = false := HK2.out.free 0
    have xr1 : u0.cell? ⟨w.heap.size + 1 + 1, 1, none⟩ = some (.slice none 0 0) := HK2.out.cell 1
    have xrf1 : u0.frozen? ⟨w.heap.size + 1 + 1, 1, none⟩ = false := HK2.out.free 1
    have xr2 : u0.cell? ⟨w.heap.size + 1 + 1, 2, none⟩ = some (.slice none 0 0) := HK2.out.cell 2
    have xrf2 : u0.frozen? ⟨w.heap.size + 1 + 1, 2, none⟩ = false := HK2.out.free 2
    go_wp2_with fail
    refine (c_impl_areTables (HC.out.below HB.out) k1 (H.out.below HB.out) HS.out).mono ?_
    rintro e wz ⟨rfl, hb⟩
    clear xa0 xa1 xa2 xa3 xb0 xb1 xb2 xr0 xr1 xr2 xrf0 xrf1 xrf2
    replace HK0 := Lib.hid (HK0.out.step hb)
    replace HK1 := Lib.hid (HK1.out.step hb)
    replace HK2 := Lib.hid (HK2.out.step hb)
    replace HB := Lib.hid (below_step HB.out hb)
    clear hb
    have xa0 : wz.cell? ⟨w.heap.size, 0, none⟩ = some (.int .i64 c.i0) := HK0.out.cell 0
    have xa1 : wz.cell? ⟨w.heap.size, 1, none⟩ = some (.int .i64 c.i1) := HK0.out.cell 1
    have xa2 : wz.cell? ⟨w.heap.size, 2, none⟩ = some (.slice Ag c.gs.length cg) := HK0.out.cell 2
    have xa3 : wz.cell? ⟨w.heap.size, 3, none⟩ = some (.slice Aq c.outs.length cq) := HK0.out.cell 3
    have xb0 : wz.cell? ⟨w.heap.size + 1, 0, none⟩ = some (.slice A g.rows.length c9) := HK1.out.cell 0
    have xb1 : wz.cell? ⟨w.heap.size + 1, 1, none⟩ = some (.slice A1 g.ones.length c1) := HK1.out.cell 1
    have xb2 : wz.cell? ⟨w.heap.size + 1, 2, none⟩ = some (.slice A2 g.cols.length c2) := HK1.out.cell 2
    have xr0 : wz.cell? ⟨w.heap.size + 1 + 1, 0, none⟩ = some (.slice none 0 0) := HK2.out.cell 0
    have xrf0 : wz.frozen? ⟨w.heap.size + 1 + 1, 0, none⟩ = false := HK2.out.free 0
    have xr1 : wz.cell? ⟨w.heap.size + 1 + 1, 1, none⟩ = some (.slice none 0 0) := HK2.out.cell 1
    have xrf1 : wz.frozen? ⟨w.heap.size + 1 + 1, 1, none⟩ = false := HK2.out.free 1
    have xr2 : wz.cell? ⟨w.heap.size + 1 + 1, 2, none⟩ = some (.slice none 0 0) := HK2.out.cell 2
    have xrf2 : wz.frozen? ⟨w.heap.size + 1 + 1, 2, none⟩ = false := HK2.out.free 2
    go_wp2_with fail
    refine (c_impl_within).mono ?_
    rintro e w' ⟨rfl, rfl⟩
    go_wp2_with fail
    refine (c_impl_within).mono ?_
    rintro e w' ⟨rfl, rfl⟩
    go_wp2_with fail
    refine (c_impl_isLabel).mono ?_
    rintro e w' ⟨rfl, rfl⟩
    go_wp2
    refine bodyPost_ret (v := .tuple #[gbV (.slice none 0 0) (.slice none 0 0) (.slice none 0 0), .bool false]) (by simp [results, Tryz.results43, go_sem, gbV, xr0, xr1, xr2]) rfl ?_
    rw [HM.out]
    exact RetGbB.no (((HB.out.setCell (p := ⟨w.heap.size + 1 + 1, 0, none⟩) (by simp; omega) _).setCell (p := ⟨w.heap.size + 1 + 1, 1, none⟩) (by simp; omega) _).setCell (p := ⟨w.heap.size + 1 + 1, 2, none⟩) (by simp; omega) _)
  obtain ⟨kn, rfl⟩ : ∃ n : Nat, k = (n : Int) := ⟨k.toNat, by have := inB_bd k3; omega⟩
  obtain ⟨rn, rfl⟩ : ∃ n : Nat, row = (n : Int) + 1 := ⟨(row - 1).toNat, by have := inB_bd k4; omega⟩
  have hkl : kn < g.rows.length := by have := inB_bd k3; omega
  have hrn : rn < 3 := by have := inB_bd k4; omega
  have hmb := inB_bd k5
  have hro := bend_row k2 hkl
  have HM := Lib.hid (show bendM 3 1 3 c g kn (rn + 1) m = some (bendG g kn rn m) by unfold bendM; rw [k1, k2, k3, k4, k5]; simp)
  have xa0 : w0.cell? ⟨w.heap.size, 0, none⟩ = some (.int .i64 c.i0) := HK0.out.cell 0
  have xa1 : w0.cell? ⟨w.heap.size, 1, none⟩ = some (.int .i64 c.i1) := HK0.out.cell 1
  have xa2 : w0.cell? ⟨w.heap.size, 2, none⟩ = some (.slice Ag c.gs.length cg) := HK0.out.cell 2
  have xa3 : w0.cell? ⟨w.heap.size, 3, none⟩ = some (.slice Aq c.outs.length cq) := HK0.out.cell 3
  have xb0 : w0.cell? ⟨w.heap.size + 1, 0, none⟩ = some (.slice A g.rows.length c9) := HK1.out.cell 0
  have xb1 : w0.cell? ⟨w.heap.size + 1, 1, none⟩ = some (.slice A1 g.ones.length c1) := HK1.out.cell 1
  have xb2 : w0.cell? ⟨w.heap.size + 1, 2, none⟩ = some (.slice A2 g.cols.length c2) := HK1.out.cell 2
  have xr0 : w0.cell? ⟨w.heap.size + 1 + 1, 0, none⟩ = some (.slice none 0 0) := HK2.out.cell 0
  have xrf0 : w0.frozen? ⟨w.heap.size + 1 + 1, 0, none⟩ = false := HK2.out.free 0
  have xr1 : w0.cell? ⟨w.heap.size + 1 + 1, 1, none⟩ = some (.slice none 0 0) := HK2.out.cell 1
  have xrf1 : w0.frozen? ⟨w.heap.size + 1 + 1, 1, none⟩ = false := HK2.out.free 1
  have xr2 : w0.cell? ⟨w.heap.size + 1 + 1, 2, none⟩ = some (.slice none 0 0) := HK2.out.cell 2
  have xrf2 : w0.frozen? ⟨w.heap.size + 1 + 1, 2, none⟩ = false := HK2.out.free 2
  go_enter Tryz.func43, Tryz.ntmps43
  go_wp2_with fail
  clear hw0
  refine (c_impl_IsCircuit (HC.out.below HB.out)).mono ?_
  rintro e u0 ⟨rfl, hb⟩
  clear xa0 xa1 xa2 xa3 xb0 xb1 xb2 xr0 xr1 xr2 xrf0 xrf1 xrf2
  replace HK0 := Lib.hid (HK0.out.step hb)
  replace HK1 := Lib.hid (HK1.out.step hb)
  replace HK2 := Lib.hid (HK2.out.step hb)
  replace HB := Lib.hid (below_step HB.out hb)
  clear hb
  have xa0 : u0.cell? ⟨w.heap.size, 0, none⟩ = some (.int .i64 c.i0) := HK0.out.cell 0
  have xa1 : u0.cell? ⟨w.heap.size, 1, none⟩ = some (.int .i64 c.i1) := HK0.out.cell 1
  have xa2 : u0.cell? ⟨w.heap.size, 2, none⟩ = some (.slice Ag c.gs.length cg) := HK0.out.cell 2
  have xa3 : u0.cell? ⟨w.heap.size, 3, none⟩ = some (.slice Aq c.outs.length cq) := HK0.out.cell 3
  have xb0 : u0.cell? ⟨w.heap.size + 1, 0, none⟩ = some (.slice A g.rows.length c9) := HK1.out.cell 0
  have xb1 : u0.cell? ⟨w.heap.size + 1, 1, none⟩ = some (.slice A1 g.ones.length c1) := HK1.out.cell 1
  have xb2 : u0.cell? ⟨w.heap.size + 1, 2, none⟩ = some (.slice A2 g.cols.length c2) := HK1.out.cell 2
  have xr0 : u0.cell? ⟨w.heap.size + 1 + 1, 0, none⟩ = some (.slice none 0 0) := HK2.out.cell 0
  have xrf0 : u0.frozen? ⟨w.heap.size + 1 + 1, 0, none⟩ = false := HK2.out.free 0
  have xr1 : u0.cell? ⟨w.heap.size + 1 + 1, 1, none⟩ = some (.slice none 0 0) := HK2.out.cell 1
  have xrf1 : u0.frozen? ⟨w.heap.size + 1 + 1, 1, none⟩ = false := HK2.out.free 1
  have xr2 : u0.cell? ⟨w.heap.size + 1 + 1, 2, none⟩ = some (.slice none 0 0) := HK2.out.cell 2
  have xrf2 : u0.frozen? ⟨w.heap.size + 1 + 1, 2, none⟩ = false := HK2.out.free 2
  go_wp2_with fail
  refine (c_impl_areTables (HC.out.below HB.out) k1 (H.out.below HB.out) HS.out).mono ?_
  rintro e w0 ⟨rfl, hb⟩
  clear xa0 xa1 xa2 xa3 xb0 xb1 xb2 xr0 xr1 xr2 xrf0 xrf1 xrf2
  replace HK0 := Lib.hid (HK0.out.step hb)
  replace HK1 := Lib.hid (HK1.out.step hb)
  replace HK2 := Lib.hid (HK2.out.step hb)
  replace HB := Lib.hid (below_step HB.out hb)
  clear hb
  have xa0 : w0.cell? ⟨w.heap.size, 0, none⟩ = some (.int .i64 c.i0) := HK0.out.cell 0
  have xa1 : w0.cell? ⟨w.heap.size, 1, none⟩ = some (.int .i64 c.i1) := HK0.out.cell 1
  have xa2 : w0.cell? ⟨w.heap.size, 2, none⟩ = some (.slice Ag c.gs.length cg) := HK0.out.cell 2
  have xa3 : w0.cell? ⟨w.heap.size, 3, none⟩ = some (.slice Aq c.outs.length cq) := HK0.out.cell 3
  have xb0 : w0.cell? ⟨w.heap.size + 1, 0, none⟩ = some (.slice A g.rows.length c9) := HK1.out.cell 0
  have xb1 : w0.cell? ⟨w.heap.size + 1, 1, none⟩ = some (.slice A1 g.ones.length c1) := HK1.out.cell 1
  have xb2 : w0.cell? ⟨w.heap.size + 1, 2, none⟩ = some (.slice A2 g.cols.length c2) := HK1.out.cell 2
  have xr0 : w0.cell? ⟨w.heap.size + 1 + 1, 0, none⟩ = some (.slice none 0 0) := HK2.out.cell 0
  have xrf0 : w0.frozen? ⟨w.heap.size + 1 + 1, 0, none⟩ = false := HK2.out.free 0
  have xr1 : w0.cell? ⟨w.heap.size + 1 + 1, 1, none⟩ = some (.slice none 0 0) := HK2.out.cell 1
  have xrf1 : w0.frozen? ⟨w.heap.size + 1 + 1, 1, none⟩ = false := HK2.out.free 1
  have xr2 : w0.cell? ⟨w.heap.size + 1 + 1, 2, none⟩ = some (.slice none 0 0) := HK2.out.cell 2
  have xrf2 : w0.frozen? ⟨w.heap.size + 1 + 1, 2, none⟩ = false := HK2.out.free 2
  go_wp2_with fail
  refine (c_impl_within).mono ?_
  rintro e w' ⟨rfl, rfl⟩
  go_wp2_with fail
  refine (c_impl_within).mono ?_
  rintro e w' ⟨rfl, rfl⟩
  go_wp2_with fail
  refine (c_impl_isLabel).mono ?_
  rintro e w' ⟨rfl, rfl⟩
  have hrl9 : rn < (g.rows.getD kn []).length := by have := hro.1; omega
  go_wp2_with fail
  refine (c_impl_bent (H.out.below HB.out) HS.out hkl hrl9 hro.2 hmb).mono ?_
  rintro e w9 ⟨rv9, ov9, cv9, vs, rfl, O, hb⟩
  unfold gbV
  obtain ⟨Ar, cr, rfl, -⟩ := O.rows.rowsIn.form
  obtain ⟨Ao, co, rfl, -⟩ := O.ones.ints
  obtain ⟨Ac, cc, rfl, -⟩ := O.cols.ints
  have hlow := HK2.out.lt
  replace O := Lib.hid O
  have hsz := HB.out.size
  clear xa0 xa1 xa2 xa3 xb0 xb1 xb2 xr0 xr1 xr2 xrf0 xrf1 xrf2
  replace HK0 := Lib.hid (HK0.out.step hb)
  replace HK1 := Lib.hid (HK1.out.step hb)
  replace HK2 := Lib.hid (HK2.out.step hb)
  replace HB := Lib.hid (below_step HB.out hb)
  clear hb
  have xa0 : w9.cell? ⟨w.heap.size, 0, none⟩ = some (.int .i64 c.i0) := HK0.out.cell 0
  have xa1 : w9.cell? ⟨w.heap.size, 1, none⟩ = some (.int .i64 c.i1) := HK0.out.cell 1
  have xa2 : w9.cell? ⟨w.heap.size, 2, none⟩ = some (.slice Ag c.gs.length cg) := HK0.out.cell 2
  have xa3 : w9.cell? ⟨w.heap.size, 3, none⟩ = some (.slice Aq c.outs.length cq) := HK0.out.cell 3
  have xb0 : w9.cell? ⟨w.heap.size + 1, 0, none⟩ = some (.slice A g.rows.length c9) := HK1.out.cell 0
  have xb1 : w9.cell? ⟨w.heap.size + 1, 1, none⟩ = some (.slice A1 g.ones.length c1) := HK1.out.cell 1
  have xb2 : w9.cell? ⟨w.heap.size + 1, 2, none⟩ = some (.slice A2 g.cols.length c2) := HK1.out.cell 2
  have xr0 : w9.cell? ⟨w.heap.size + 1 + 1, 0, none⟩ = some (.slice none 0 0) := HK2.out.cell 0
  have xrf0 : w9.frozen? ⟨w.heap.size + 1 + 1, 0, none⟩ = false := HK2.out.free 0
  have xr1 : w9.cell? ⟨w.heap.size + 1 + 1, 1, none⟩ = some (.slice none 0 0) := HK2.out.cell 1
  have xrf1 : w9.frozen? ⟨w.heap.size + 1 + 1, 1, none⟩ = false := HK2.out.free 1
  have xr2 : w9.cell? ⟨w.heap.size + 1 + 1, 2, none⟩ = some (.slice none 0 0) := HK2.out.cell 2
  have xrf2 : w9.frozen? ⟨w.heap.size + 1 + 1, 2, none⟩ = false := HK2.out.free 2
  go_wp2
  refine bodyPost_ret (v := .tuple #[gbV (.slice Ar (bendG g kn rn m).rows.length cr) (.slice Ao (bendG g kn rn m).ones.length co) (.slice Ac (bendG g kn rn m).cols.length cc), .bool true]) (by simp [results, Tryz.results43, go_sem, gbV, xr0, xr1, xr2]) rfl ⟨_, _, _, vs, by rw [HM.out]; rfl, ?_, ?_⟩
  · rw [HM.out]; exact (((O.out.setLow hlow 0 _).setLow hlow 1 _).setLow hlow 2 _).mono hsz
  · exact ((HB.out.setCell (p := ⟨w.heap.size + 1 + 1, 0, none⟩) (by simp; omega) _).setCell (p := ⟨w.heap.size + 1 + 1, 1, none⟩) (by simp; omega) _).setCell (p := ⟨w.heap.size + 1 + 1, 2, none⟩) (by simp; omega) _
end Go.Proofs.YtejeppjmlgfiaaaGreat

/- A bent table is as large as it was; a struct of three slices, stored. Plain lemmas. -/
namespace Go.Proofs.YtejeppjmlgfiaaaGreat
open Go.RowKit
set_option linter.unusedVariables false

theorem map_set_len (rows : List (List Int)) (k : Nat) (r : List Int) (h : (rows.getD k []).length = r.length) : (rows.set k r).map List.length = rows.map List.length := by
  by_cases hk : k < rows.length
  · rw [List.map_set, ← h]
    refine List.ext_getElem (by simp) fun i h1 h2 => ?_
    rw [List.getElem_set]
    split
    · rename_i e; subst e; simp [List.getD_eq_getElem?_getD, List.getElem?_eq_getElem hk]
    · rfl
  · rw [List.set_eq_of_length_le (by omega)]
theorem bendG_sz (g : Gb) (k row : Nat) (m : Int) : (bendG g k row m).sz = g.sz := by
  have h := map_set_len g.rows k (bendRow (g.rows.getD k []) row m) (by simp [bendRow])
  show (bendR g.rows k row m).length + cntR (bendR g.rows k row m) + g.ones.length + g.cols.length = _
  unfold cntR bendR
  rw [h]; simp [Gb.sz, cntR]
theorem bendM_sz (n lo hi : Int) (c : Cir) (g : Gb) (k row m : Int) : ((bendM n lo hi c g k row m).getD Gb.none).sz ≤ g.sz := by
  unfold bendM
  split
  · exact Nat.le_of_eq (bendG_sz g _ _ _)
  · exact Nat.zero_le _
theorem blk3 {w : World} {b : Nat} {t : TypeId} {x y z : Value} (h : Blk w b t #[x, y, z]) (x' y' z' : Value) : Blk (((w.setCell ⟨b, 0, none⟩ x').setCell ⟨b, 1, none⟩ y').setCell ⟨b, 2, none⟩ z') b t #[x', y', z'] := by
  have := ((h.set_ 0 x').set_ 1 y').set_ 2 z'
  simpa using this
end Go.Proofs.YtejeppjmlgfiaaaGreat

/- The plain law of bending: a row bent twice is as before. Plain lemmas; no condition but those that each names. -/
namespace Go.Proofs.YtejeppjmlgfiaaaGreat
open Go.RowKit
set_option linter.unusedVariables false
theorem bendRow_twice {r : List Int} {row : Nat} {m : Int} (hr : ∀ x ∈ r, 0 ≤ x) : bendRow (bendRow r row m) row m = r := by
  unfold bendRow
  by_cases h : row < r.length
  · rw [List.set_set]
    have e1 : r.getD row 0 = r[row] := by rw [List.getD_eq_getElem?_getD, List.getElem?_eq_getElem h]; rfl
    have e2 : (r.set row (xorI (r.getD row 0) m)).getD row 0 = xorI (r.getD row 0) m := by
      rw [List.getD_eq_getElem?_getD, List.getElem?_set_self h]; rfl
    rw [e2, e1, xorI_back (hr _ (List.getElem_mem h))]
    exact List.set_getElem_self h
  · have e9 : ∀ v, r.set row v = r := fun v => List.set_eq_of_length_le (by omega)
    rw [e9, e9]
theorem bendR_twice {rows : List (List Int)} {k row : Nat} {m : Int} (hr : ∀ x ∈ rows.getD k [], 0 ≤ x) : bendR (bendR rows k row m) k row m = rows := by
  unfold bendR
  by_cases h : k < rows.length
  · rw [List.set_set]
    have e1 : rows.getD k [] = rows[k] := by rw [List.getD_eq_getElem?_getD, List.getElem?_eq_getElem h]; rfl
    have e2 : (rows.set k (bendRow (rows.getD k []) row m)).getD k [] = bendRow (rows.getD k []) row m := by
      rw [List.getD_eq_getElem?_getD, List.getElem?_set_self h]; rfl
    rw [e2, bendRow_twice hr, e1]
    exact List.set_getElem_self h
  · have e9 : ∀ v, rows.set k v = rows := fun v => List.set_eq_of_length_le (by omega)
    rw [e9, e9]
theorem bendRow_ok {r : List Int} {row : Nat} {m : Int} (hm : 0 ≤ m ∧ m ≤ 65535) (hr : ∀ x ∈ r, 0 ≤ x ∧ x ≤ 65535) : ∀ x ∈ bendRow r row m, 0 ≤ x ∧ x ≤ 65535 := by
  intro x hx
  unfold bendRow at hx
  rcases List.mem_or_eq_of_mem_set hx with h | h
  · exact hr x h
  · rw [h]
    have hb : 0 ≤ r.getD row 0 ∧ r.getD row 0 ≤ 65535 := by
      rw [List.getD_eq_getElem?_getD]
      rcases h9 : r[row]? with _ | y
      · simp
      · exact hr y (List.mem_of_getElem? h9)
    exact xorI_bd hb.1 hm.1 hb.2 hm.2
theorem bend_tab {n : Int} {c : Cir} {g : Gb} {k row : Nat} {m : Int} (h : tabB n c g = true) (hk : k < g.rows.length) (hm : 0 ≤ m ∧ m ≤ 65535) : tabB n c (bendG g k row m) = true := by
  have hrw := bend_row h hk
  unfold tabB at h ⊢
  simp only [Bool.and_eq_true, decide_eq_true_eq] at h ⊢
  obtain ⟨⟨⟨⟨⟨h1, h2⟩, h3⟩, h4⟩, h5⟩, h6⟩ := h
  refine ⟨⟨⟨⟨⟨?_, ?_⟩, h3⟩, h4⟩, h5⟩, h6⟩
  · show ((bendR g.rows k row m).length : Int) = _
    rw [bendR_length]; exact h1
  · show (bendR g.rows k row m).all (rowB n) = true
    rw [List.all_eq_true] at h2 ⊢
    intro r hr
    unfold bendR at hr
    rcases List.mem_or_eq_of_mem_set hr with h | h
    · exact h2 r h
    · rw [h]
      unfold rowB
      simp only [Bool.and_eq_true, decide_eq_true_eq]
      refine ⟨by rw [show (bendRow (g.rows.getD k []) row m).length = (g.rows.getD k []).length by simp [bendRow]]; exact hrw.1, ?_⟩
      unfold allB
      rw [List.all_eq_true]
      intro x hx
      have := bendRow_ok hm hrw.2 x hx
      simp [inB]; omega
theorem bend_twice {n lo hi : Int} {c : Cir} {g t : Gb} {k row m : Int} (h : bendM n lo hi c g k row m = some t) : bendM n lo hi c t k row m = some g := by
  unfold bendM at h
  split at h
  · rename_i hq
    injection h with h
    simp only [Bool.and_eq_true] at hq
    obtain ⟨⟨⟨⟨h1, h2⟩, h3⟩, h4⟩, h5⟩ := hq
    have hkb := inB_bd h3
    have hmb := inB_bd h5
    have hk : k.toNat < g.rows.length := by omega
    have ht := bend_tab (row := (row - lo).toNat) h2 hk hmb
    have hrw := bend_row h2 hk
    unfold bendM
    subst h
    rw [h1, ht, show ((bendG g k.toNat (row - lo).toNat m).rows.length : Int) = (g.rows.length : Int) by show ((bendR g.rows _ _ _).length : Int) = _; rw [bendR_length], h3, h4, h5]
    simp only [Bool.and_self, if_true]
    have hb : bendG (bendG g k.toNat (row - lo).toNat m) k.toNat (row - lo).toNat m = g := by
      unfold bendG
      simp only
      rw [bendR_twice (fun x hx => (hrw.2 x hx).1)]
    rw [hb]
  · cases h
theorem half_bd (n l s : Int) : 0 ≤ oV (halfM n l s) ∧ oV (halfM n l s) ≤ 65535 := by
  unfold halfM
  split
  · exact digM_bd _
  · exact ⟨by decide, by decide⟩
end Go.Proofs.YtejeppjmlgfiaaaGreat

/- The plain law of bent rows: a row that is not used has no effect; and what the law on bent rows asks of a circuit whose rows are known. Conditions: those that each names. -/
namespace Go.Proofs.YtejeppjmlgfiaaaGreat
open Go.RowKit
set_option linter.unusedVariables false

theorem elt_bend {r : List Int} {row : Nat} {m i : Int} (h : i.toNat ≠ row) : elt (bendRow r row m) i = elt r i := by
  unfold elt bendRow
  simp only [List.getD_eq_getElem?_getD, List.getElem?_set_ne (fun e => h e.symm)]
theorem openM_bend {w x y : Int} {r : List Int} {row m : Int} (hr : 1 ≤ row) (h : x % 2 * 2 + y % 2 ≠ row) : openM w x y (bendRow r (row - 1).toNat m) = openM w x y r := by
  unfold openM
  have hx : 0 ≤ x % 2 := by omega
  have hy : 0 ≤ y % 2 := by omega
  split
  · rename_i h0
    rw [elt_bend (by omega)]
  · rfl
section
variable {F : Int → Int → Int → List Int → Int} {T : Gb} {inp : List Int} {gs : List Gt}
theorem used_pre : ∀ (n k : Nat), k + n ≤ gs.length → ∃ l, (usedM F T inp (gs.take (k + n))).2 = (usedM F T inp (gs.take k)).2 ++ l
  | 0, k, _ => ⟨[], by simp⟩
  | n + 1, k, h => by
    obtain ⟨l, hl⟩ := used_pre n k (by omega)
    have hg : gs[k + n]? = some gs[k + n] := List.getElem?_eq_getElem (by omega)
    rw [show k + (n + 1) = k + n + 1 by omega, used_snoc hg]
    unfold uStep
    simp only [hl]
    split
    · exact ⟨l ++ [_], by rw [List.append_assoc]⟩
    · exact ⟨l, rfl⟩
/-- The row that a gate GtAnd uses. -/
theorem used_at (hk : kindsB gs) {j : Nat} {g : Gt} (hg : gs[j]? = some g) (h1 : g.k = 1) :
    (usedM F T inp gs).2[(wiresM F T inp (gs.take j)).2.1]? = some (elt (wiresM F T inp (gs.take j)).1 g.a % 2 * 2 + elt (wiresM F T inp (gs.take j)).1 g.b % 2) := by
  have hj : j < gs.length := (List.getElem?_eq_some_iff.1 hg).1
  obtain ⟨l, hl⟩ := used_pre (F := F) (T := T) (inp := inp) (gs := gs) (gs.length - (j + 1)) (j + 1) (by omega)
  rw [show j + 1 + (gs.length - (j + 1)) = gs.length by omega, List.take_of_length_le (Nat.le_refl _)] at hl
  have hlen := used_len (F := F) (T := T) (inp := inp) hk j (by omega)
  have hcn := (wires_inv (F := F) (T := T) (inp := inp) hk j (by omega)).2.1
  have e : (usedM F T inp (gs.take j)).2.length = (wiresM F T inp (gs.take j)).2.1 := by omega
  rw [hl, used_snoc hg]
  unfold uStep
  simp only [h1, if_true, used_fst]
  rw [List.append_assoc, List.getElem?_append_right (by omega), e, Nat.sub_self]
  rfl
/-- A row that is not used has no effect. -/
theorem bent_wires (hk : kindsB gs) {k : Nat} {row m : Int} (hr : 1 ≤ row) (hu : (usedM openM T inp gs).2.getD k 0 ≠ row) :
    ∀ j, j ≤ gs.length → wiresM openM (bendG T k (row - 1).toNat m) inp (gs.take j) = wiresM openM T inp (gs.take j)
  | 0, _ => by simp [wiresM]
  | j + 1, h => by
    have ih := bent_wires hk hr hu (m := m) j (by omega)
    have hg : gs[j]? = some gs[j] := List.getElem?_eq_getElem (by omega)
    rw [wires_snoc hg, wires_snoc hg, ih]
    have hkk := hk gs[j] (List.mem_of_getElem? hg)
    by_cases h1 : gs[j].k = 1
    · have hat := used_at (F := openM) (T := T) (inp := inp) hk hg h1
      generalize gs[j] = g at *
      generalize wiresM openM T inp (gs.take j) = s at *
      unfold wireStep
      have h0 : ¬ g.k = 0 := by omega
      have h2 : ¬ g.k = 2 := by omega
      have h3 : ¬ g.k = 3 := by omega
      simp only [h0, h2, h3, if_false]
      by_cases hs : s.2.1 = k
      · have hne : elt s.1 g.a % 2 * 2 + elt s.1 g.b % 2 ≠ row := by
          rw [List.getD_eq_getElem?_getD, ← hs, hat] at hu
          exact hu
        by_cases hkl : k < T.rows.length
        · have e : (bendG T k (row - 1).toNat m).rows.getD s.2.1 [] = bendRow (T.rows.getD s.2.1 []) (row - 1).toNat m := by
            show (bendR T.rows k (row - 1).toNat m).getD s.2.1 [] = _
            unfold bendR
            rw [hs, List.getD_eq_getElem?_getD, List.getElem?_set_self hkl]; rfl
          rw [e, openM_bend hr hne]
        · have e : (bendG T k (row - 1).toNat m).rows = T.rows := by
            show bendR T.rows k (row - 1).toNat m = _
            unfold bendR
            exact List.set_eq_of_length_le (by omega)
          rw [e]
      · have e : (bendG T k (row - 1).toNat m).rows.getD s.2.1 [] = T.rows.getD s.2.1 [] := by
          show (bendR T.rows k (row - 1).toNat m).getD s.2.1 [] = _
          unfold bendR
          rw [List.getD_eq_getElem?_getD, List.getElem?_set_ne (fun e => hs e.symm), List.getD_eq_getElem?_getD]
        rw [e]
    · generalize gs[j] = g at *
      generalize wiresM openM T inp (gs.take j) = s at *
      unfold wireStep
      by_cases h0 : g.k = 0
      · simp only [h0, if_true]
      · by_cases h2 : g.k = 2
        · simp only [h2, if_true]
        · have h3 : g.k = 3 := by omega
          simp only [h3]
          rfl
end
/-- A list comes back, and that it could. -/
def YesI (w : World) (l : List Int) (e : Ending) (w' : World) : Prop := ∃ u, e = .returned (.tuple #[u, .bool true]) ∧ OwnI w' w.heap.size u l ∧ Below w.heap.size w w'
def YesG (w : World) (g : Gb) (e : Ending) (w' : World) : Prop := ∃ rv ov cv vs, e = .returned (.tuple #[gbV rv ov cv, .bool true]) ∧ OwnGb w' w.heap.size rv ov cv vs g ∧ Below w.heap.size w w'
theorem RetIB.toYes {w w' : World} {l : List Int} {e : Ending} (h : RetIB w (some l) e w') : YesI w l e w' := h
theorem RetGbB.toYes {w w' : World} {g : Gb} {e : Ending} (h : RetGbB w (some g) e w') : YesG w g e w' := h
/-- What the law makes: the tables, the bent ones, the labels of the inputs, the labels of the outs of both. -/
structure BrD where
  t : Gb
  t2 : Gb
  inp : List Int
  xs : List Int
  ys : List Int
/-- What the law asks of a circuit whose rows are known. -/
structure BrP (c : Cir) (key off : Int) (a b us : List Int) (k : Nat) (row : Int) (P : BrD) : Prop where
  hxl : P.xs.length ≤ 40
  hil : P.inp.length ≤ 40
  hts : P.t.sz ≤ 2000
  same : us.getD k 0 ≠ row → P.ys = P.xs
  c2 : ∀ {W : World} {A A' : Option Addr} {j j' : Nat}, CirIn W (.slice A c.gs.length j) (.slice A' c.outs.length j') c →
        Calls Tryz.prog 27 #[.agg #[.int .i64 c.i0, .int .i64 c.i1, .slice A c.gs.length j, .slice A' c.outs.length j'], .int .i64 key, .int .i64 off] W (YesG W P.t)
  c3 : ∀ {W : World} {A A' Aa Ab : Option Addr} {j j' ka kb : Nat}, CirIn W (.slice A c.gs.length j) (.slice A' c.outs.length j') c → Ints W (.slice Aa a.length ka) a → Ints W (.slice Ab b.length kb) b →
        Calls Tryz.prog 20 #[.agg #[.int .i64 c.i0, .int .i64 c.i1, .slice A c.gs.length j, .slice A' c.outs.length j'], .int .i64 key, .int .i64 off, .slice Aa a.length ka, .slice Ab b.length kb] W (YesI W P.inp)
  c4 : ∀ {W : World} {A A' : Option Addr} {j j' : Nat} {rv nv cv : Value}, CirIn W (.slice A c.gs.length j) (.slice A' c.outs.length j') c → GbIn W rv nv cv P.t →
        Calls Tryz.prog 43 #[.agg #[.int .i64 c.i0, .int .i64 c.i1, .slice A c.gs.length j, .slice A' c.outs.length j'], .agg #[rv, nv, cv], .int .i64 (k : Int), .int .i64 row, .int .i64 4660] W (YesG W P.t2)
  c5 : ∀ {W : World} {A A' : Option Addr} {j j' : Nat} {rv nv cv u : Value}, CirIn W (.slice A c.gs.length j) (.slice A' c.outs.length j') c → GbIn W rv nv cv P.t → Ints W u P.inp →
        Calls Tryz.prog 28 #[.agg #[.int .i64 c.i0, .int .i64 c.i1, .slice A c.gs.length j, .slice A' c.outs.length j'], .agg #[rv, nv, cv], u] W (YesI W P.xs)
  c6 : ∀ {W : World} {A A' : Option Addr} {j j' : Nat} {rv nv cv u : Value}, CirIn W (.slice A c.gs.length j) (.slice A' c.outs.length j') c → GbIn W rv nv cv P.t2 → Ints W u P.inp →
        Calls Tryz.prog 28 #[.agg #[.int .i64 c.i0, .int .i64 c.i1, .slice A c.gs.length j, .slice A' c.outs.length j'], .agg #[rv, nv, cv], u] W (YesI W P.ys)
  c7 : ∀ {W : World} {A A' : Option Addr} {j j' : Nat} {rv nv cv : Value}, CirIn W (.slice A c.gs.length j) (.slice A' c.outs.length j') c → GbIn W rv nv cv P.t2 →
        Calls Tryz.prog 43 #[.agg #[.int .i64 c.i0, .int .i64 c.i1, .slice A c.gs.length j, .slice A' c.outs.length j'], .agg #[rv, nv, cv], .int .i64 (k : Int), .int .i64 row, .int .i64 4660] W (YesG W P.t)
theorem br_pack {c : Cir} {key off : Int} {a b us : List Int} {k : Nat} {row : Int} (hU : opensM c key off a b = some us) (hla : a.length ≤ 1048576) (hlb : b.length ≤ 1048576) (hk : k < us.length) (hr : 1 ≤ row ∧ row ≤ 3) : ∃ P : BrD, BrP c key off a b us k row P := by
  have h0 : (askedB c a b && inB key 0 1000000000 && offB off) = true ∧ (usedM openM (tabM (gbZ off) (gbR off) key off c) (lbInM key off (a ++ b)) c.gs).2 = us := by
    unfold opensM at hU
    split at hU
    · rename_i hq; injection hU with hU; exact ⟨hq, hU⟩
    · cases hU
  obtain ⟨hq, hus⟩ := h0
  simp only [Bool.and_eq_true] at hq
  obtain ⟨⟨ha, hkey⟩, hoff⟩ := hq
  have hc := (askedB_of ha).1
  have hcb := cirB_bd hc
  have hob := offB_bd hoff
  have hin := asked_in' ha
  have hkb : keyB c key off = true := by unfold keyB; rw [hc, hkey, hoff]; rfl
  have ht := gb_tab_ok (key := key) hc ⟨hob.1, hob.2.1⟩
  obtain ⟨T, hT⟩ : ∃ T, tabM (gbZ off) (gbR off) key off c = T := ⟨_, rfl⟩
  obtain ⟨I, hI⟩ : ∃ I, lbInM key off (a ++ b) = I := ⟨_, rfl⟩
  have hib : ∀ x ∈ I, 0 ≤ x ∧ x ≤ 65535 := by rw [← hI]; exact lbIn_bd' ⟨hob.1, hob.2.1⟩ hin.2
  have hil : (I.length : Int) = c.ins := by rw [← hI, lbInM_length]; exact hin.1
  have htab : tablesM gbZ gbR c key off = some T := by unfold tablesM; rw [if_pos hkb, hT]
  have hinp : inputM c key off a b = some I := by unfold inputM; rw [ha, hkey, hoff, hI]; rfl
  rw [hT] at ht
  rw [hT, hI] at hus
  have htz := tab_sz hc ht (by omega)
  have hul := used_len (F := openM) (T := T) (inp := I) (cirB_kinds hc) c.gs.length (Nat.le_refl _)
  rw [List.take_of_length_le (Nat.le_refl _), hus] at hul
  have htr := (tabB_of ht).1
  have hkr : k < T.rows.length := by omega
  have hm : (0 : Int) ≤ 4660 ∧ (4660 : Int) ≤ 65535 := by omega
  have ht2 : tabB 3 c (bendG T k (row - 1).toNat 4660) = true := bend_tab ht hkr hm
  have hbend : bendM 3 1 3 c T (k : Int) row 4660 = some (bendG T k (row - 1).toNat 4660) := by
    unfold bendM
    rw [hc, ht, inB_mk (by omega) (by omega), inB_mk hr.1 hr.2, inB_mk hm.1 hm.2]
    simp
  have hback := bend_twice hbend
  have htz2 : (bendG T k (row - 1).toNat 4660).sz ≤ 2000 := by have := tab_sz hc ht2 (by omega); omega
  have hal : allB I 0 65535 = true := allB_of hib
  have hev : ∀ G : Gb, tabB 3 c G = true → evalM 3 openM c G I = some (pickM (wiresM openM G I c.gs).1 c.outs) := fun G hG => by
    unfold evalM; rw [hc, hG, hal, decide_eq_true hil]; rfl
  have hinl : I.length ≤ 40 := by unfold Cir.ins at hil; omega
  refine ⟨⟨T, bendG T k (row - 1).toNat 4660, I, pickM (wiresM openM T I c.gs).1 c.outs, pickM (wiresM openM (bendG T k (row - 1).toNat 4660) I c.gs).1 c.outs⟩, by show (pickM _ _).length ≤ 40; rw [pickM_length]; omega, hinl, htz, fun hne => ?_, fun h1 => ?_, fun h1 h2 h3 => ?_, fun h1 h2 => ?_, fun h1 h2 h3 => ?_, fun h1 h2 h3 => ?_, fun h1 h2 => ?_⟩
  · have h9 := bent_wires (T := T) (inp := I) (m := 4660) (cirB_kinds hc) hr.1 (by rw [hus]; exact hne) c.gs.length (Nat.le_refl _)
    rw [List.take_of_length_le (Nat.le_refl _)] at h9
    show pickM (wiresM openM (bendG T k (row - 1).toNat 4660) I c.gs).1 c.outs = pickM (wiresM openM T I c.gs).1 c.outs
    rw [h9]
  · have := c_impl_GarbleCircuit (key := key) (off := off) h1; rw [htab] at this; exact this.mono fun e w' h => h.toYes
  · have := c_impl_InputLabels (key := key) (r := off) h1 h2 h3 hla hlb; rw [hinp] at this; exact this.mono fun e w' h => h.toYes
  · have := c_impl_BendRow (k := (k : Int)) (row := row) (m := 4660) h1 h2 (Nat.le_trans htz (by omega)); rw [hbend] at this; exact this.mono fun e w' h => h.toYes
  · have := c_impl_EvalGarbled h1 h2 (Nat.le_trans htz (by omega)) h3 (Nat.le_trans hinl (by omega)); rw [hev T ht] at this; exact this.mono fun e w' h => h.toYes
  · have := c_impl_EvalGarbled h1 h2 (Nat.le_trans htz2 (by omega)) h3 (Nat.le_trans hinl (by omega)); rw [hev _ ht2] at this; exact this.mono fun e w' h => h.toYes
  · have := c_impl_BendRow (k := (k : Int)) (row := row) (m := 4660) h1 h2 (Nat.le_trans htz2 (by omega)); rw [hback] at this; exact this.mono fun e w' h => h.toYes
end Go.Proofs.YtejeppjmlgfiaaaGreat

/- Contracts of the bending of one row, the reference model. Conditions: the tables are short. -/
namespace Go.Proofs.YtejeppjmlgfiaaaGreat
open Go.RowKit
set_option linter.unusedVariables false

set_option maxRecDepth 100000 in
set_option maxHeartbeats 4000000 in
theorem c_spec_BendRow {c : Cir} {g : Gb} {gv qv rv nv cv : Value} {w : World} {k row m : Int} (hC : CirIn w gv qv c) (h : GbIn w rv nv cv g) (hs : g.sz ≤ 1048576) :
    Calls Tryz.prog 45 #[cirV c gv qv, gbV rv nv cv, .int .i64 k, .int .i64 row, .int .i64 m] w (RetGbB w (bendM 3 1 3 c g k row m)) := by
  have H := Lib.hid h
  have HS := Lib.hid hs
  obtain ⟨hrw, ho, hc⟩ := h
  obtain ⟨A, c9, rfl, -⟩ := hrw.form
  obtain ⟨A1, c1, rfl, -⟩ := ho
  obtain ⟨A2, c2, rfl, -⟩ := hc
  have hol : g.ones.length ≤ 1048576 := by unfold Gb.sz at hs; omega
  have hcl : g.cols.length ≤ 1048576 := by unfold Gb.sz at hs; omega
  have hrl : g.rows.length ≤ 1048576 := by unfold Gb.sz at hs; omega
  have HRL := Lib.hid (Gb.row_le hs)
  obtain ⟨A', c', e', hlc, hcm, hat⟩ := hrw.form
  injection e' with e1 e2 e3
  subst e1 e3
  have HAT := Lib.hid hat
  clear hrw hs hat
  have HC := Lib.hid hC
  obtain ⟨hg, ho⟩ := hC
  obtain ⟨Ag, cg, rfl, -⟩ := hg
  obtain ⟨Aq, cq, rfl, -⟩ := ho
  unfold cirV gbV
  obtain ⟨w0, hw0⟩ : ∃ W, (((w.alloc (.cells #[.int .i64 c.i0, .int .i64 c.i1, .slice Ag c.gs.length cg, .slice Aq c.outs.length cq] 26)).alloc (.cells #[.slice A g.rows.length c9, .slice A1 g.ones.length c1, .slice A2 g.cols.length c2] 50)).alloc (.cells #[.slice none 0 0, .slice none 0 0, .slice none 0 0] 50)) = W := ⟨_, rfl⟩
  have HK0 : Hid (Blk w0 w.heap.size 26 #[.int .i64 c.i0, .int .i64 c.i1, .slice Ag c.gs.length cg, .slice Aq c.outs.length cq]) := by rw [← hw0]; exact ((Blk.new _ _ _).alloc _).alloc _
  have HK1 : Hid (Blk w0 (w.heap.size + 1) 50 #[.slice A g.rows.length c9, .slice A1 g.ones.length c1, .slice A2 g.cols.length c2]) := by rw [← hw0]; have := (Blk.new (w.alloc (.cells #[.int .i64 c.i0, .int .i64 c.i1, .slice Ag c.gs.length cg, .slice Aq c.outs.length cq] 26)) 50 #[.slice A g.rows.length c9, .slice A1 g.ones.length c1, .slice A2 g.cols.length c2]).alloc (.cells #[.slice none 0 0, .slice none 0 0, .slice none 0 0] 50); simp only [World.size_alloc] at this; exact this
  have HK2 : Hid (Blk w0 (w.heap.size + 1 + 1) 50 #[.slice none 0 0, .slice none 0 0, .slice none 0 0]) := by rw [← hw0]; have := Blk.new ((w.alloc (.cells #[.int .i64 c.i0, .int .i64 c.i1, .slice Ag c.gs.length cg, .slice Aq c.outs.length cq] 26)).alloc (.cells #[.slice A g.rows.length c9, .slice A1 g.ones.length c1, .slice A2 g.cols.length c2] 50)) 50 #[.slice none 0 0, .slice none 0 0, .slice none 0 0]; simp only [World.size_alloc] at this; exact this
  have HB : Hid (Below w.heap.size w w0) := by rw [← hw0]; exact (((Below.refl _ _).alloc (Nat.le_refl _) _).alloc (by simp) _).alloc (by simp; omega) _
  rcases k1 : cirB c with _ | _
  · skip
    have HM := Lib.hid (show bendM 3 1 3 c g k row m = none by unfold bendM; simp [k1])
    have xa0 : w0.cell? ⟨w.heap.size, 0, none⟩ = some (.int .i64 c.i0) := HK0.out.cell 0
    have xa1 : w0.cell? ⟨w.heap.size, 1, none⟩ = some (.int .i64 c.i1) := HK0.out.cell 1
    have xa2 : w0.cell? ⟨w.heap.size, 2, none⟩ = some (.slice Ag c.gs.length cg) := HK0.out.cell 2
    have xa3 : w0.cell? ⟨w.heap.size, 3, none⟩ = some (.slice Aq c.outs.length cq) := HK0.out.cell 3
    have xb0 : w0.cell? ⟨w.heap.size + 1, 0, none⟩ = some (.slice A g.rows.length c9) := HK1.out.cell 0
    have xb1 : w0.cell? ⟨w.heap.size + 1, 1, none⟩ = some (.slice A1 g.ones.length c1) := HK1.out.cell 1
    have xb2 : w0.cell? ⟨w.heap.size + 1, 2, none⟩ = some (.slice A2 g.cols.length c2) := HK1.out.cell 2
    have xr0 : w0.cell? ⟨w.heap.size + 1 + 1, 0, none⟩ = some (.slice none 0 0) := HK2.out.cell 0
    have xrf0 : w0.frozen? ⟨w.heap.size + 1 + 1, 0, none⟩ = false := HK2.out.free 0
    have xr1 : w0.cell? ⟨w.heap.size + 1 + 1, 1, none⟩ = some (.slice none 0 0) := HK2.out.cell 1
    have xrf1 : w0.frozen? ⟨w.heap.size + 1 + 1, 1, none⟩ = false := HK2.out.free 1
    have xr2 : w0.cell? ⟨w.heap.size + 1 + 1, 2, none⟩ = some (.slice none 0 0) := HK2.out.cell 2
    have xrf2 : w0.frozen? ⟨w.heap.size + 1 + 1, 2, none⟩ = false := HK2.out.free 2
    go_enter Tryz.func45, Tryz.ntmps45
    go_wp2_with fail
    clear hw0
    refine (c_spec_ciGood (HC.out.below HB.out)).mono ?_
    rintro e wz ⟨rfl, hb⟩
    clear xa0 xa1 xa2 xa3 xb0 xb1 xb2 xr0 xr1 xr2 xrf0 xrf1 xrf2
    replace HK0 := Lib.hid (HK0.out.step hb)
    replace HK1 := Lib.hid (HK1.out.step hb)
    replace HK2 := Lib.hid (HK2.out.step hb)
    replace HB := Lib.hid (below_step HB.out hb)
    clear hb
    have xa0 : wz.cell? ⟨w.heap.size, 0, none⟩ = some (.int .i64 c.i0) := HK0.out.cell 0
    have xa1 : wz.cell? ⟨w.heap.size, 1, none⟩ = some (.int .i64 c.i1) := HK0.out.cell 1
    have xa2 : wz.cell? ⟨w.heap.size, 2, none⟩ = some (.slice Ag c.gs.length cg) := HK0.out.cell 2
    have xa3 : wz.cell? ⟨w.heap.size, 3, none⟩ = some (.slice Aq c.outs.length cq) := HK0.out.cell 3
    have xb0 : wz.cell? ⟨w.heap.size + 1, 0, none⟩ = some (.slice A g.rows.length c9) := HK1.out.cell 0
    have xb1 : wz.cell? ⟨w.heap.size + 1, 1, none⟩ = some (.slice A1 g.ones.length c1) := HK1.out.cell 1
    have xb2 : wz.cell? ⟨w.heap.size + 1, 2, none⟩ = some (.slice A2 g.cols.length c2) := HK1.out.cell 2
    have xr0 : wz.cell? ⟨w.heap.size + 1 + 1, 0, none⟩ = some (.slice none 0 0) := HK2.out.cell 0
    have xrf0 : wz.frozen? ⟨w.heap.size + 1 + 1, 0, none⟩ = false := HK2.out.free 0
    have xr1 : wz.cell? ⟨w.heap.size + 1 + 1, 1, none⟩ = some (.slice none 0 0) := HK2.out.cell 1
    have xrf1 : wz.frozen? ⟨w.heap.size + 1 + 1, 1, none⟩ = false := HK2.out.free 1
    have xr2 : wz.cell? ⟨w.heap.size + 1 + 1, 2, none⟩ = some (.slice none 0 0) := HK2.out.cell 2
    have xrf2 : wz.frozen? ⟨w.heap.size + 1 + 1, 2, none⟩ = false := HK2.out.free 2
    go_wp2
    refine bodyPost_ret (v := .tuple #[gbV (.slice none 0 0) (.slice none 0 0) (.slice none 0 0), .bool false]) (by simp [results, Tryz.results45, go_sem, gbV, xr0, xr1, xr2]) rfl ?_
    rw [HM.out]
    exact RetGbB.no (((HB.out.setCell (p := ⟨w.heap.size + 1 + 1, 0, none⟩) (by simp; omega) _).setCell (p := ⟨w.heap.size + 1 + 1, 1, none⟩) (by simp; omega) _).setCell (p := ⟨w.heap.size + 1 + 1, 2, none⟩) (by simp; omega) _)
  rcases k2 : tabB 3 c g with _ | _
  · skip
    have HM := Lib.hid (show bendM 3 1 3 c g k row m = none by unfold bendM; simp [k1, k2])
    have xa0 : w0.cell? ⟨w.heap.size, 0, none⟩ = some (.int .i64 c.i0) := HK0.out.cell 0
    have xa1 : w0.cell? ⟨w.heap.size, 1, none⟩ = some (.int .i64 c.i1) := HK0.out.cell 1
    have xa2 : w0.cell? ⟨w.heap.size, 2, none⟩ = some (.slice Ag c.gs.length cg) := HK0.out.cell 2
    have xa3 : w0.cell? ⟨w.heap.size, 3, none⟩ = some (.slice Aq c.outs.length cq) := HK0.out.cell 3
    have xb0 : w0.cell? ⟨w.heap.size + 1, 0, none⟩ = some (.slice A g.rows.length c9) := HK1.out.cell 0
    have xb1 : w0.cell? ⟨w.heap.size + 1, 1, none⟩ = some (.slice A1 g.ones.length c1) := HK1.out.cell 1
    have xb2 : w0.cell? ⟨w.heap.size + 1, 2, none⟩ = some (.slice A2 g.cols.length c2) := HK1.out.cell 2
    have xr0 : w0.cell? ⟨w.heap.size + 1 + 1, 0, none⟩ = some (.slice none 0 0) := HK2.out.cell 0
    have xrf0 : w0.frozen? ⟨w.heap.size + 1 + 1, 0, none⟩ = false := HK2.out.free 0
    have xr1 : w0.cell? ⟨w.heap.size + 1 + 1, 1, none⟩ = some (.slice none 0 0) := HK2.out.cell 1
    have xrf1 : w0.frozen? ⟨w.heap.size + 1 + 1, 1, none⟩ = false := HK2.out.free 1
    have xr2 : w0.cell? ⟨w.heap.size + 1 + 1, 2, none⟩ = some (.slice none 0 0) := HK2.out.cell 2
    have xrf2 : w0.frozen? ⟨w.heap.size + 1 + 1, 2, none⟩ = false := HK2.out.free 2
    go_enter Tryz.func45, Tryz.ntmps45
    go_wp2_with fail
    clear hw0
    refine (c_spec_ciGood (HC.out.below HB.out)).mono ?_
    rintro e u0 ⟨rfl, hb⟩
    clear xa0 xa1 xa2 xa3 xb0 xb1 xb2 xr0 xr1 xr2 xrf0 xrf1 xrf2
    replace HK0 := Lib.hid (HK0.out.step hb)
    replace HK1 := Lib.hid (HK1.out.step hb)
    replace HK2 := Lib.hid (HK2.out.step hb)
    replace HB := Lib.hid (below_step HB.out hb)
    clear hb
    have xa0 : u0.cell? ⟨w.heap.size, 0, none⟩ = some (.int .i64 c.i0) := HK0.out.cell 0
    have xa1 : u0.cell? ⟨w.heap.size, 1, none⟩ = some (.int .i64 c.i1) := HK0.out.cell 1
    have xa2 : u0.cell? ⟨w.heap.size, 2, none⟩ = some (.slice Ag c.gs.length cg) := HK0.out.cell 2
    have xa3 : u0.cell? ⟨w.heap.size, 3, none⟩ = some (.slice Aq c.outs.length cq) := HK0.out.cell 3
    have xb0 : u0.cell? ⟨w.heap.size + 1, 0, none⟩ = some (.slice A g.rows.length c9) := HK1.out.cell 0
    have xb1 : u0.cell? ⟨w.heap.size + 1, 1, none⟩ = some (.slice A1 g.ones.length c1) := HK1.out.cell 1
    have xb2 : u0.cell? ⟨w.heap.size + 1, 2, none⟩ = some (.slice A2 g.cols.length c2) := HK1.out.cell 2
    have xr0 : u0.cell? ⟨w.heap.size + 1 + 1, 0, none⟩ = some (.slice none 0 0) := HK2.out.cell 0
    have xrf0 : u0.frozen? ⟨w.heap.size + 1 + 1, 0, none⟩ = false := HK2.out.free 0
    have xr1 : u0.cell? ⟨w.heap.size + 1 + 1, 1, none⟩ = some (.slice none 0 0) := HK2.out.cell 1
    have xrf1 : u0.frozen? ⟨w.heap.size + 1 + 1, 1, none⟩ = false := HK2.out.free 1
    have xr2 : u0.cell? ⟨w.heap.size + 1 + 1, 2, none⟩ = some (.slice none 0 0) := HK2.out.cell 2
    have xrf2 : u0.frozen? ⟨w.heap.size + 1 + 1, 2, none⟩ = false := HK2.out.free 2
    go_wp2_with fail
    refine (c_spec_gbGood (HC.out.below HB.out) k1 (H.out.below HB.out) HS.out).mono ?_
    rintro e wz ⟨rfl, hb⟩
    clear xa0 xa1 xa2 xa3 xb0 xb1 xb2 xr0 xr1 xr2 xrf0 xrf1 xrf2
    replace HK0 := Lib.hid (HK0.out.step hb)
    replace HK1 := Lib.hid (HK1.out.step hb)
    replace HK2 := Lib.hid (HK2.out.step hb)
    replace HB := Lib.hid (below_step HB.out hb)
    clear hb
    have xa0 : wz.cell? ⟨w.heap.size, 0, none⟩ = some (.int .i64 c.i0) := HK0.out.cell 0
    have xa1 : wz.cell? ⟨w.heap.size, 1, none⟩ = some (.int .i64 c.i1) := HK0.out.cell 1
    have xa2 : wz.cell? ⟨w.heap.size, 2, none⟩ = some (.slice Ag c.gs.length cg) := HK0.out.cell 2
    have xa3 : wz.cell? ⟨w.heap.size, 3, none⟩ = some (.slice Aq c.outs.length cq) := HK0.out.cell 3
    have xb0 : wz.cell? ⟨w.heap.size + 1, 0, none⟩ = some (.slice A g.rows.length c9) := HK1.out.cell 0
    have xb1 : wz.cell? ⟨w.heap.size + 1, 1, none⟩ = some (.slice A1 g.ones.length c1) := HK1.out.cell 1
    have xb2 : wz.cell? ⟨w.heap.size + 1, 2, none⟩ = some (.slice A2 g.cols.length c2) := HK1.out.cell 2
    have xr0 : wz.cell? ⟨w.heap.size + 1 + 1, 0, none⟩ = some (.slice none 0 0) := HK2.out.cell 0
    have xrf0 : wz.frozen? ⟨w.heap.size + 1 + 1, 0, none⟩ = false := HK2.out.free 0
    have xr1 : wz.cell? ⟨w.heap.size + 1 + 1, 1, none⟩ = some (.slice none 0 0) := HK2.out.cell 1
    have xrf1 : wz.frozen? ⟨w.heap.size + 1 + 1, 1, none⟩ = false := HK2.out.free 1
    have xr2 : wz.cell? ⟨w.heap.size + 1 + 1, 2, none⟩ = some (.slice none 0 0) := HK2.out.cell 2
    have xrf2 : wz.frozen? ⟨w.heap.size + 1 + 1, 2, none⟩ = false := HK2.out.free 2
    go_wp2
    refine bodyPost_ret (v := .tuple #[gbV (.slice none 0 0) (.slice none 0 0) (.slice none 0 0), .bool false]) (by simp [results, Tryz.results45, go_sem, gbV, xr0, xr1, xr2]) rfl ?_
    rw [HM.out]
    exact RetGbB.no (((HB.out.setCell (p := ⟨w.heap.size + 1 + 1, 0, none⟩) (by simp; omega) _).setCell (p := ⟨w.heap.size + 1 + 1, 1, none⟩) (by simp; omega) _).setCell (p := ⟨w.heap.size + 1 + 1, 2, none⟩) (by simp; omega) _)
  rcases k3 : inB k 0 ((g.rows.length : Int) - 1) with _ | _
  · skip
    have HM := Lib.hid (show bendM 3 1 3 c g k row m = none by unfold bendM; simp [k1, k2, k3])
    have xa0 : w0.cell? ⟨w.heap.size, 0, none⟩ = some (.int .i64 c.i0) := HK0.out.cell 0
    have xa1 : w0.cell? ⟨w.heap.size, 1, none⟩ = some (.int .i64 c.i1) := HK0.out.cell 1
    have xa2 : w0.cell? ⟨w.heap.size, 2, none⟩ = some (.slice Ag c.gs.length cg) := HK0.out.cell 2
    have xa3 : w0.cell? ⟨w.heap.size, 3, none⟩ = some (.slice Aq c.outs.length cq) := HK0.out.cell 3
    have xb0 : w0.cell? ⟨w.heap.size + 1, 0, none⟩ = some (.slice A g.rows.length c9) := HK1.out.cell 0
    have xb1 : w0.cell? ⟨w.heap.size + 1, 1, none⟩ = some (.slice A1 g.ones.length c1) := HK1.out.cell 1
    have xb2 : w0.cell? ⟨w.heap.size + 1, 2, none⟩ = some (.slice A2 g.cols.length c2) := HK1.out.cell 2
    have xr0 : w0.cell? ⟨w.heap.size + 1 + 1, 0, none⟩ = some (.slice none 0 0) := HK2.out.cell 0
    have xrf0 : w0.frozen? ⟨w.heap.size + 1 + 1, 0, none⟩ = false := HK2.out.free 0
    have xr1 : w0.cell? ⟨w.heap.size + 1 + 1, 1, none⟩ = some (.slice none 0 0) := HK2.out.cell 1
    have xrf1 : w0.frozen? ⟨w.heap.size + 1 + 1, 1, none⟩ = false := HK2.out.free 1
    have xr2 : w0.cell? ⟨w.heap.size + 1 + 1, 2, none⟩ = some (.slice none 0 0) := HK2.out.cell 2
    have xrf2 : w0.frozen? ⟨w.heap.size + 1 + 1, 2, none⟩ = false := HK2.out.free 2
    go_enter Tryz.func45, Tryz.ntmps45
    go_wp2_with fail
    clear hw0
    refine (c_spec_ciGood (HC.out.below HB.out)).mono ?_
    rintro e u0 ⟨rfl, hb⟩
    clear xa0 xa1 xa2 xa3 xb0 xb1 xb2 xr0 xr1 xr2 xrf0 xrf1 xrf2
    replace HK0 := Lib.hid (HK0.out.step hb)
    replace HK1 := Lib.hid (HK1.out.step hb)
    replace HK2 := Lib.hid (HK2.out.step hb)
    replace HB := Lib.hid (below_step HB.out hb)
    clear hb
    have xa0 : u0.cell? ⟨w.heap.size, 0, none⟩ = some (.int .i64 c.i0) := HK0.out.cell 0
    have xa1 : u0.cell? ⟨w.heap.size, 1, none⟩ = some (.int .i64 c.i1) := HK0.out.cell 1
    have xa2 : u0.cell? ⟨w.heap.size, 2, none⟩ = some (.slice Ag c.gs.length cg) := HK0.out.cell 2
    have xa3 : u0.cell? ⟨w.heap.size, 3, none⟩ = some (.slice Aq c.outs.length cq) := HK0.out.cell 3
    have xb0 : u0.cell? ⟨w.heap.size + 1, 0, none⟩ = some (.slice A g.rows.length c9) := HK1.out.cell 0
    have xb1 : u0.cell? ⟨w.heap.size + 1, 1, none⟩ = some (.slice A1 g.ones.length c1) := HK1.out.cell 1
    have xb2 : u0.cell? ⟨w.heap.size + 1, 2, none⟩ = some (.slice A2 g.cols.length c2) := HK1.out.cell 2
    have xr0 : u0.cell? ⟨w.heap.size + 1 + 1, 0, none⟩ = some (.slice none 0 0) := HK2.out.cell 0
    have xrf0 : u0.frozen? ⟨w.heap.size + 1 + 1, 0, none⟩ = false := HK2.out.free 0
    have xr1 : u0.cell? ⟨w.heap.size + 1 + 1, 1, none⟩ = some (.slice none 0 0) := HK2.out.cell 1
    have xrf1 : u0.frozen? ⟨w.heap.size + 1 + 1, 1, none⟩ = false := HK2.out.free 1
    have xr2 : u0.cell? ⟨w.heap.size + 1 + 1, 2, none⟩ = some (.slice none 0 0) := HK2.out.cell 2
    have xrf2 : u0.frozen? ⟨w.heap.size + 1 + 1, 2, none⟩ = false := HK2.out.free 2
    go_wp2_with fail
    refine (c_spec_gbGood (HC.out.below HB.out) k1 (H.out.below HB.out) HS.out).mono ?_
    rintro e wz ⟨rfl, hb⟩
    clear xa0 xa1 xa2 xa3 xb0 xb1 xb2 xr0 xr1 xr2 xrf0 xrf1 xrf2
    replace HK0 := Lib.hid (HK0.out.step hb)
    replace HK1 := Lib.hid (HK1.out.step hb)
    replace HK2 := Lib.hid (HK2.out.step hb)
    replace HB := Lib.hid (below_step HB.out hb)
    clear hb
    have xa0 : wz.cell? ⟨w.heap.size, 0, none⟩ = some (.int .i64 c.i0) := HK0.out.cell 0
    have xa1 : wz.cell? ⟨w.heap.size, 1, none⟩ = some (.int .i64 c.i1) := HK0.out.cell 1
    have xa2 : wz.cell? ⟨w.heap.size, 2, none⟩ = some (.slice Ag c.gs.length cg) := HK0.out.cell 2
    have xa3 : wz.cell? ⟨w.heap.size, 3, none⟩ = some (.slice Aq c.outs.length cq) := HK0.out.cell 3
    have xb0 : wz.cell? ⟨w.heap.size + 1, 0, none⟩ = some (.slice A g.rows.length c9) := HK1.out.cell 0
    have xb1 : wz.cell? ⟨w.heap.size + 1, 1, none⟩ = some (.slice A1 g.ones.length c1) := HK1.out.cell 1
    have xb2 : wz.cell? ⟨w.heap.size + 1, 2, none⟩ = some (.slice A2 g.cols.length c2) := HK1.out.cell 2
    have xr0 : wz.cell? ⟨w.heap.size + 1 + 1, 0, none⟩ = some (.slice none 0 0) := HK2.out.cell 0
    have xrf0 : wz.frozen? ⟨w.heap.size + 1 + 1, 0, none⟩ = false := HK2.out.free 0
    have xr1 : wz.cell? ⟨w.heap.size + 1 + 1, 1, none⟩ = some (.slice none 0 0) := HK2.out.cell 1
    have xrf1 : wz.frozen? ⟨w.heap.size + 1 + 1, 1, none⟩ = false := HK2.out.free 1
    have xr2 : wz.cell? ⟨w.heap.size + 1 + 1, 2, none⟩ = some (.slice none 0 0) := HK2.out.cell 2
    have xrf2 : wz.frozen? ⟨w.heap.size + 1 + 1, 2, none⟩ = false := HK2.out.free 2
    go_wp2_with fail
    refine (c_spec_l1In).mono ?_
    rintro e w' ⟨rfl, rfl⟩
    go_wp2
    refine bodyPost_ret (v := .tuple #[gbV (.slice none 0 0) (.slice none 0 0) (.slice none 0 0), .bool false]) (by simp [results, Tryz.results45, go_sem, gbV, xr0, xr1, xr2]) rfl ?_
    rw [HM.out]
    exact RetGbB.no (((HB.out.setCell (p := ⟨w.heap.size + 1 + 1, 0, none⟩) (by simp; omega) _).setCell (p := ⟨w.heap.size + 1 + 1, 1, none⟩) (by simp; omega) _).setCell (p := ⟨w.heap.size + 1 + 1, 2, none⟩) (by simp; omega) _)
  rcases k4 : inB row 1 3 with _ | _
  · skip
    have HM := Lib.hid (show bendM 3 1 3 c g k row m = none by unfold bendM; simp [k1, k2, k3, k4])
    have xa0 : w0.cell? ⟨w.heap.size, 0, none⟩ = some (.int .i64 c.i0) := HK0.out.cell 0
    have xa1 : w0.cell? ⟨w.heap.size, 1, none⟩ = some (.int .i64 c.i1) := HK0.out.cell 1
    have xa2 : w0.cell? ⟨w.heap.size, 2, none⟩ = some (.slice Ag c.gs.length cg) := HK0.out.cell 2
    have xa3 : w0.cell? ⟨w.heap.size, 3, none⟩ = some (.slice Aq c.outs.length cq) := HK0.out.cell 3
    have xb0 : w0.cell? ⟨w.heap.size + 1, 0, none⟩ = some (.slice A g.rows.length c9) := HK1.out.cell 0
    have xb1 : w0.cell? ⟨w.heap.size + 1, 1, none⟩ = some (.slice A1 g.ones.length c1) := HK1.out.cell 1
    have xb2 : w0.cell? ⟨w.heap.size + 1, 2, none⟩ = some (.slice A2 g.cols.length c2) := HK1.out.cell 2
    have xr0 : w0.cell? ⟨w.heap.size + 1 + 1, 0, none⟩ = some (.slice none 0 0) := HK2.out.cell 0
    have xrf0 : w0.frozen? ⟨w.heap.size + 1 + 1, 0, none⟩ = false := HK2.out.free 0
    have xr1 : w0.cell? ⟨w.heap.size + 1 + 1, 1, none⟩ = some (.slice none 0 0) := HK2.out.cell 1
    have xrf1 : w0.frozen? ⟨w.heap.size + 1 + 1, 1, none⟩ = false := HK2.out.free 1
    have xr2 : w0.cell? ⟨w.heap.size + 1 + 1, 2, none⟩ = some (.slice none 0 0) := HK2.out.cell 2
    have xrf2 : w0.frozen? ⟨w.heap.size + 1 + 1, 2, none⟩ = false := HK2.out.free 2
    go_enter Tryz.func45, Tryz.ntmps45
    go_wp2_with fail
    clear hw0
    refine (c_spec_ciGood (HC.out.below HB.out)).mono ?_
    rintro e u0 ⟨rfl, hb⟩
    clear xa0 xa1 xa2 xa3 xb0 xb1 xb2 xr0 xr1 xr2 xrf0 xrf1 xrf2
    replace HK0 := Lib.hid (HK0.out.step hb)
    replace HK1 := Lib.hid (HK1.out.step hb)
    replace HK2 := Lib.hid (HK2.out.step hb)
    replace HB := Lib.hid (below_step HB.out hb)
    clear hb
    have xa0 : u0.cell? ⟨w.heap.size, 0, none⟩ = some (.int .i64 c.i0) := HK0.out.cell 0
    have xa1 : u0.cell? ⟨w.heap.size, 1, none⟩ = some (.int .i64 c.i1) := HK0.out.cell 1
    have xa2 : u0.cell? ⟨w.heap.size, 2, none⟩ = some (.slice Ag c.gs.length cg) := HK0.out.cell 2
    have xa3 : u0.cell? ⟨w.heap.size, 3, none⟩ = some (.slice Aq c.outs.length cq) := HK0.out.cell 3
    have xb0 : u0.cell? ⟨w.heap.size + 1, 0, none⟩ = some (.slice A g.rows.length c9) := HK1.out.cell 0
    have xb1 : u0.cell? ⟨w.heap.size + 1, 1, none⟩ = some (.slice A1 g.ones.length c1) := HK1.out.cell 1
    have xb2 : u0.cell? ⟨w.heap.size + 1, 2, none⟩ = some (.slice A2 g.cols.length c2) := HK1.out.cell 2
    have xr0 : u0.cell? ⟨w.heap.size + 1 + 1, 0, none⟩ = some (.slice none 0 0) := HK2.out.cell 0
    have xrf0 : u0.frozen? ⟨w.heap.size + 1 + 1, 0, none⟩ = false := HK2.out.free 0
    have xr1 : u0.cell? ⟨w.heap.size + 1 + 1, 1, none⟩ = some (.slice none 0 0) := HK2.out.cell 1
    have xrf1 : u0.frozen? ⟨w.heap.size + 1 + 1, 1, none⟩ = false := HK2.out.free 1
    have xr2 : u0.cell? ⟨w.heap.size + 1 + 1, 2, none⟩ = some (.slice none 0 0) := HK2.out.cell 2
    have xrf2 : u0.frozen? ⟨w.heap.size + 1 + 1, 2, none⟩ = false := HK2.out.free 2
    go_wp2_with fail
    refine (c_spec_gbGood (HC.out.below HB.out) k1 (H.out.below HB.out) HS.out).mono ?_
    rintro e wz ⟨rfl, hb⟩
    clear xa0 xa1 xa2 xa3 xb0 xb1 xb2 xr0 xr1 xr2 xrf0 xrf1 xrf2
    replace HK0 := Lib.hid (HK0.out.step hb)
    replace HK1 := Lib.hid (HK1.out.step hb)
    replace HK2 := Lib.hid (HK2.out.step hb)
    replace HB := Lib.hid (below_step HB.out hb)
    clear hb
    have xa0 : wz.cell? ⟨w.heap.size, 0, none⟩ = some (.int .i64 c.i0) := HK0.out.cell 0
    have xa1 : wz.cell? ⟨w.heap.size, 1, none⟩ = some (.int .i64 c.i1) := HK0.out.cell 1
    have xa2 : wz.cell? ⟨w.heap.size, 2, none⟩ = some (.slice Ag c.gs.length cg) := HK0.out.cell 2
    have xa3 : wz.cell? ⟨w.heap.size, 3, none⟩ = some (.slice Aq c.outs.length cq) := HK0.out.cell 3
    have xb0 : wz.cell? ⟨w.heap.size + 1, 0, none⟩ = some (.slice A g.rows.length c9) := HK1.out.cell 0
    have xb1 : wz.cell? ⟨w.heap.size + 1, 1, none⟩ = some (.slice A1 g.ones.length c1) := HK1.out.cell 1
    have xb2 : wz.cell? ⟨w.heap.size + 1, 2, none⟩ = some (.slice A2 g.cols.length c2) := HK1.out.cell 2
    have xr0 : wz.cell? ⟨w.heap.size + 1 + 1, 0, none⟩ = some (.slice none 0 0) := HK2.out.cell 0
    have xrf0 : wz.frozen? ⟨w.heap.size + 1 + 1, 0, none⟩ = false := HK2.out.free 0
    have xr1 : wz.cell? ⟨w.heap.size + 1 + 1, 1, none⟩ = some (.slice none 0 0) := HK2.out.cell 1
    have xrf1 : wz.frozen? ⟨w.heap.size + 1 + 1, 1, none⟩ = false := HK2.out.free 1
    have xr2 : wz.cell? ⟨w.heap.size + 1 + 1, 2, none⟩ = some (.slice none 0 0) := HK2.out.cell 2
    have xrf2 : wz.frozen? ⟨w.heap.size + 1 + 1, 2, none⟩ = false := HK2.out.free 2
    go_wp2_with fail
    refine (c_spec_l1In).mono ?_
    rintro e w' ⟨rfl, rfl⟩
    go_wp2_with fail
    refine (c_spec_l1In).mono ?_
    rintro e w' ⟨rfl, rfl⟩
    go_wp2
    refine bodyPost_ret (v := .tuple #[gbV (.slice none 0 0) (.slice none 0 0) (.slice none 0 0), .bool false]) (by simp [results, Tryz.results45, go_sem, gbV, xr0, xr1, xr2]) rfl ?_
    rw [HM.out]
    exact RetGbB.no (((HB.out.setCell (p := ⟨w.heap.size + 1 + 1, 0, none⟩) (by simp; omega) _).setCell (p := ⟨w.heap.size + 1 + 1, 1, none⟩) (by simp; omega) _).setCell (p := ⟨w.heap.size + 1 + 1, 2, none⟩) (by simp; omega) _)
  rcases k5 : inB m 0 65535 with _ | _
  · skip
    have HM := Lib.hid (show bendM 3 1 3 c g k row m = none by unfold bendM; simp [k1, k2, k3, k4, k5])
    have xa0 : w0.cell? ⟨w.heap.size, 0, none⟩ = some (.int .i64 c.i0) := HK0.out.cell 0
    have xa1 : w0.cell? ⟨w.heap.size, 1, none⟩ = some (.int .i64 c.i1) := HK0.out.cell 1
    have xa2 : w0.cell? ⟨w.heap.size, 2, none⟩ = some (.slice Ag c.gs.length cg) := HK0.out.cell 2
    have xa3 : w0.cell? ⟨w.heap.size, 3, none⟩ = some (.slice Aq c.outs.length cq) := HK0.out.cell 3
    have xb0 : w0.cell? ⟨w.heap.size + 1, 0, none⟩ = some (.slice A g.rows.length c9) := HK1.out.cell 0
    have xb1 : w0.cell? ⟨w.heap.size + 1, 1, none⟩ = some (.slice A1 g.ones.length c1) := HK1.out.cell 1
    have xb2 : w0.cell? ⟨w.heap.size + 1, 2, none⟩ = some (.slice A2 g.cols.length c2) := HK1.out.cell 2
    have xr0 : w0.cell? ⟨w.heap.size + 1 + 1, 0, none⟩ = some (.slice none 0 0) := HK2.out.cell 0
    have xrf0 : w0.frozen? ⟨w.heap.size + 1 + 1, 0, none⟩ = false := HK2.out.free 0
    have xr1 : w0.cell? ⟨w.heap.size + 1 + 1, 1, none⟩ = some (.slice none 0 0) := HK2.out.cell 1
    have xrf1 : w0.frozen? ⟨w.heap.size + 1 + 1, 1, none⟩ = false := HK2.out.free 1
    have xr2 : w0.cell? ⟨w.heap.size + 1 + 1, 2, none⟩ = some (.slice none 0 0) := HK2.out.cell 2
    have xrf2 : w0.frozen? ⟨w.heap.size + 1 + 1, 2, none⟩ = false := HK2.out.free 2
    go_enter Tryz.func45, Tryz.ntmps45
    go_wp2_with fail
    clear hw0
    refine (c_spec_ciGood (HC.out.below HB.out)).mono ?_
    rintro e u0 ⟨rfl, hb⟩
    clear xa0 xa1 xa2 xa3 xb0 xb1 xb2 xr0 xr1 xr2 xrf0 xrf1 xrf2
    replace HK0 := Lib.hid (HK0.out.step hb)
    replace HK1 := Lib.hid (HK1.out.step hb)
    replace HK2 := Lib.hid (HK2.out.step hb)
    replace HB := Lib.hid (below_step HB.out hb)
    clear hb
    have xa0 : u0.cell? ⟨w.heap.size, 0, none⟩ = some (.int .i64 c.i0) := HK0.out.cell 0
    have xa1 : u0.cell? ⟨w.heap.size, 1, none⟩ = some (.int .i64 c.i1) := HK0.out.cell 1
    have xa2 : u0.cell? ⟨w.heap.size, 2, none⟩ = some (.slice Ag c.gs.length cg) := HK0.out.cell 2
    have xa3 : u0.cell? ⟨w.heap.size, 3, none⟩ = some (.slice Aq c.outs.length cq) := HK0.out.cell 3
    have xb0 : u0.cell? ⟨w.heap.size + 1, 0, none⟩ = some (.slice A g.rows.length c9) := HK1.out.cell 0
    have xb1 : u0.cell? ⟨w.heap.size + 1, 1, none⟩ = some (.slice A1 g.ones.length c1) := HK1.out.cell 1
    have xb2 : u0.cell? ⟨w.heap.size + 1, 2, none⟩ = some (.slice A2 g.cols.length c2) := HK1.out.cell 2
    have xr0 : u0.cell? ⟨w.heap.size + 1 + 1, 0, none⟩ = some (.slice none 0 0) := HK2.out.cell 0
    have xrf0 : u0.frozen? ⟨w.heap.size + 1 + 1, 0, none⟩ = false := HK2.out.free 0
    have xr1 : u0.cell? ⟨w.heap.size + 1 + 1, 1, none⟩ = some (.slice none 0 0) := HK2.out.cell 1
    have xrf1 : u0.frozen? ⟨w.heap.size + 1 + 1, 1, none⟩ = false := HK2.out.free 1
    have xr2 : u0.cell? ⟨w.heap.size + 1 + 1, 2, none⟩ = some (.slice none 0 0) := HK2.out.cell 2
    have xrf2 : u0.frozen? ⟨w.heap.size + 1 + 1, 2, none⟩ = false := HK2.out.free 2
    go_wp2_with fail
    refine (c_spec_gbGood (HC.out.below HB.out) k1 (H.out.below HB.out) HS.out).mono ?_
    rintro e wz ⟨rfl, hb⟩
    clear xa0 xa1 xa2 xa3 xb0 xb1 xb2 xr0 xr1 xr2 xrf0 xrf1 xrf2
    replace HK0 := Lib.hid (HK0.out.step hb)
    replace HK1 := Lib.hid (HK1.out.step hb)
    replace HK2 := Lib.hid (HK2.out.step hb)
    replace HB := Lib.hid (below_step HB.out hb)
    clear hb
    have xa0 : wz.cell? ⟨w.heap.size, 0, none⟩ = some (.int .i64 c.i0) := HK0.out.cell 0
    have xa1 : wz.cell? ⟨w.heap.size, 1, none⟩ = some (.int .i64 c.i1) := HK0.out.cell 1
    have xa2 : wz.cell? ⟨w.heap.size, 2, none⟩ = some (.slice Ag c.gs.length cg) := HK0.out.cell 2
    have xa3 : wz.cell? ⟨w.heap.size, 3, none⟩ = some (.slice Aq c.outs.length cq) := HK0.out.cell 3
    have xb0 : wz.cell? ⟨w.heap.size + 1, 0, none⟩ = some (.slice A g.rows.length c9) := HK1.out.cell 0
    have xb1 : wz.cell? ⟨w.heap.size + 1, 1, none⟩ = some (.slice A1 g.ones.length c1) := HK1.out.cell 1
    have xb2 : wz.cell? ⟨w.heap.size + 1, 2, none⟩ = some (.slice A2 g.cols.length c2) := HK1.out.cell 2
    have xr0 : wz.cell? ⟨w.heap.size + 1 + 1, 0, none⟩ = some (.slice none 0 0) := HK2.out.cell 0
    have xrf0 : wz.frozen? ⟨w.heap.size + 1 + 1, 0, none⟩ = false := HK2.out.free 0
    have xr1 : wz.cell? ⟨w.heap.size + 1 + 1, 1, none⟩ = some (.slice none 0 0) := HK2.out.cell 1
    have xrf1 : wz.frozen? ⟨w.heap.size + 1 + 1, 1, none⟩ = false := HK2.out.free 1
    have xr2 : wz.cell? ⟨w.heap.size + 1 + 1, 2, none⟩ = some (.slice none 0 0) := HK2.out.cell 2
    have xrf2 : wz.frozen? ⟨w.heap.size + 1 + 1, 2, none⟩ = false := HK2.out.free 2
    go_wp2_with fail
    refine (c_spec_l1In).mono ?_
    rintro e w' ⟨rfl, rfl⟩
    go_wp2_with fail
    refine (c_spec_l1In).mono ?_
    rintro e w' ⟨rfl, rfl⟩
    go_wp2_with fail
    refine (c_spec_lbGood).mono ?_
    rintro e w' ⟨rfl, rfl⟩
    go_wp2
    refine bodyPost_ret (v := .tuple #[gbV (.slice none 0 0) (.slice none 0 0) (.slice none 0 0), .bool false]) (by simp [results, Tryz.results45, go_sem, gbV, xr0, xr1, xr2]) rfl ?_
    rw [HM.out]
    exact RetGbB.no (((HB.out.setCell (p := ⟨w.heap.size + 1 + 1, 0, none⟩) (by simp; omega) _).setCell (p := ⟨w.heap.size + 1 + 1, 1, none⟩) (by simp; omega) _).setCell (p := ⟨w.heap.size + 1 + 1, 2, none⟩) (by simp; omega) _)
  obtain ⟨kn, rfl⟩ : ∃ n : Nat, k = (n : Int) := ⟨k.toNat, by have := inB_bd k3; omega⟩
  obtain ⟨rn, rfl⟩ : ∃ n : Nat, row = (n : Int) + 1 := ⟨(row - 1).toNat, by have := inB_bd k4; omega⟩
  have hkl : kn < g.rows.length := by have := inB_bd k3; omega
  have hrn : rn < 3 := by have := inB_bd k4; omega
  have hmb := inB_bd k5
  have hro := bend_row k2 hkl
  have HM := Lib.hid (show bendM 3 1 3 c g kn (rn + 1) m = some (bendG g kn rn m) by unfold bendM; rw [k1, k2, k3, k4, k5]; simp)
  have xa0 : w0.cell? ⟨w.heap.size, 0, none⟩ = some (.int .i64 c.i0) := HK0.out.cell 0
  have xa1 : w0.cell? ⟨w.heap.size, 1, none⟩ = some (.int .i64 c.i1) := HK0.out.cell 1
  have xa2 : w0.cell? ⟨w.heap.size, 2, none⟩ = some (.slice Ag c.gs.length cg) := HK0.out.cell 2
  have xa3 : w0.cell? ⟨w.heap.size, 3, none⟩ = some (.slice Aq c.outs.length cq) := HK0.out.cell 3
  have xb0 : w0.cell? ⟨w.heap.size + 1, 0, none⟩ = some (.slice A g.rows.length c9) := HK1.out.cell 0
  have xb1 : w0.cell? ⟨w.heap.size + 1, 1, none⟩ = some (.slice A1 g.ones.length c1) := HK1.out.cell 1
  have xb2 : w0.cell? ⟨w.heap.size + 1, 2, none⟩ = some (.slice A2 g.cols.length c2) := HK1.out.cell 2
  have xr0 : w0.cell? ⟨w.heap.size + 1 + 1, 0, none⟩ = some (.slice none 0 0) := HK2.out.cell 0
  have xrf0 : w0.frozen? ⟨w.heap.size + 1 + 1, 0, none⟩ = false := HK2.out.free 0
  have xr1 : w0.cell? ⟨w.heap.size + 1 + 1, 1, none⟩ = some (.slice none 0 0) := HK2.out.cell 1
  have xrf1 : w0.frozen? ⟨w.heap.size + 1 + 1, 1, none⟩ = false := HK2.out.free 1
  have xr2 : w0.cell? ⟨w.heap.size + 1 + 1, 2, none⟩ = some (.slice none 0 0) := HK2.out.cell 2
  have xrf2 : w0.frozen? ⟨w.heap.size + 1 + 1, 2, none⟩ = false := HK2.out.free 2
  go_enter Tryz.func45, Tryz.ntmps45
  go_wp2_with fail
  clear hw0
  refine (c_spec_ciGood (HC.out.below HB.out)).mono ?_
  rintro e u0 ⟨rfl, hb⟩
  clear xa0 xa1 xa2 xa3 xb0 xb1 xb2 xr0 xr1 xr2 xrf0 xrf1 xrf2
  replace HK0 := Lib.hid (HK0.out.step hb)
  replace HK1 := Lib.hid (HK1.out.step hb)
  replace HK2 := Lib.hid (HK2.out.step hb)
  replace HB := Lib.hid (below_step HB.out hb)
  clear hb
  have xa0 : u0.cell? ⟨w.heap.size, 0, none⟩ = some (.int .i64 c.i0) := HK0.out.cell 0
  have xa1 : u0.cell? ⟨w.heap.size, 1, none⟩ = some (.int .i64 c.i1) := HK0.out.cell 1
  have xa2 : u0.cell? ⟨w.heap.size, 2, none⟩ = some (.slice Ag c.gs.length cg) := HK0.out.cell 2
  have xa3 : u0.cell? ⟨w.heap.size, 3, none⟩ = some (.slice Aq c.outs.length cq) := HK0.out.cell 3
  have xb0 : u0.cell? ⟨w.heap.size + 1, 0, none⟩ = some (.slice A g.rows.length c9) := HK1.out.cell 0
  have xb1 : u0.cell? ⟨w.heap.size + 1, 1, none⟩ = some (.slice A1 g.ones.length c1) := HK1.out.cell 1
  have xb2 : u0.cell? ⟨w.heap.size + 1, 2, none⟩ = some (.slice A2 g.cols.length c2) := HK1.out.cell 2
  have xr0 : u0.cell? ⟨w.heap.size + 1 + 1, 0, none⟩ = some (.slice none 0 0) := HK2.out.cell 0
  have xrf0 : u0.frozen? ⟨w.heap.size + 1 + 1, 0, none⟩ = false := HK2.out.free 0
  have xr1 : u0.cell? ⟨w.heap.size + 1 + 1, 1, none⟩ = some (.slice none 0 0) := HK2.out.cell 1
  have xrf1 : u0.frozen? ⟨w.heap.size + 1 + 1, 1, none⟩ = false := HK2.out.free 1
  have xr2 : u0.cell? ⟨w.heap.size + 1 + 1, 2, none⟩ = some (.slice none 0 0) := HK2.out.cell 2
  have xrf2 : u0.frozen? ⟨w.heap.size + 1 + 1, 2, none⟩ = false := HK2.out.free 2
  go_wp2_with fail
  refine (c_spec_gbGood (HC.out.below HB.out) k1 (H.out.below HB.out) HS.out).mono ?_
  rintro e w0 ⟨rfl, hb⟩
  clear xa0 xa1 xa2 xa3 xb0 xb1 xb2 xr0 xr1 xr2 xrf0 xrf1 xrf2
  replace HK0 := Lib.hid (HK0.out.step hb)
  replace HK1 := Lib.hid (HK1.out.step hb)
  replace HK2 := Lib.hid (HK2.out.step hb)
  replace HB := Lib.hid (below_step HB.out hb)
  clear hb
  have xa0 : w0.cell? ⟨w.heap.size, 0, none⟩ = some (.int .i64 c.i0) := HK0.out.cell 0
  have xa1 : w0.cell? ⟨w.heap.size, 1, none⟩ = some (.int .i64 c.i1) := HK0.out.cell 1
  have xa2 : w0.cell? ⟨w.heap.size, 2, none⟩ = some (.slice Ag c.gs.length cg) := HK0.out.cell 2
  have xa3 : w0.cell? ⟨w.heap.size, 3, none⟩ = some (.slice Aq c.outs.length cq) := HK0.out.cell 3
  have xb0 : w0.cell? ⟨w.heap.size + 1, 0, none⟩ = some (.slice A g.rows.length c9) := HK1.out.cell 0
  have xb1 : w0.cell? ⟨w.heap.size + 1, 1, none⟩ = some (.slice A1 g.ones.length c1) := HK1.out.cell 1
  have xb2 : w0.cell? ⟨w.heap.size + 1, 2, none⟩ = some (.slice A2 g.cols.length c2) := HK1.out.cell 2
  have xr0 : w0.cell? ⟨w.heap.size + 1 + 1, 0, none⟩ = some (.slice none 0 0) := HK2.out.cell 0
  have xrf0 : w0.frozen? ⟨w.heap.size + 1 + 1, 0, none⟩ = false := HK2.out.free 0
  have xr1 : w0.cell? ⟨w.heap.size + 1 + 1, 1, none⟩ = some (.slice none 0 0) := HK2.out.cell 1
  have xrf1 : w0.frozen? ⟨w.heap.size + 1 + 1, 1, none⟩ = false := HK2.out.free 1
  have xr2 : w0.cell? ⟨w.heap.size + 1 + 1, 2, none⟩ = some (.slice none 0 0) := HK2.out.cell 2
  have xrf2 : w0.frozen? ⟨w.heap.size + 1 + 1, 2, none⟩ = false := HK2.out.free 2
  go_wp2_with fail
  refine (c_spec_l1In).mono ?_
  rintro e w' ⟨rfl, rfl⟩
  go_wp2_with fail
  refine (c_spec_l1In).mono ?_
  rintro e w' ⟨rfl, rfl⟩
  go_wp2_with fail
  refine (c_spec_lbGood).mono ?_
  rintro e w' ⟨rfl, rfl⟩
  go_wp2_with fail
  refine (c_spec_gbOwn (H.out.below HB.out) HS.out).mono ?_
  rintro e w9 ⟨rv9, ov9, cv9, vs, rfl, O, hb⟩
  unfold gbV
  obtain ⟨Ao, co, rfl, -⟩ := O.ones.ints
  obtain ⟨Ac, cc, rfl, -⟩ := O.cols.ints
  have hlow := HK2.out.lt
  have hsz := HB.out.size
  obtain ⟨g0, c0, u, r, A8, c8, e8, -, -, hvs, hrk, hue, hcell, hOu⟩ := O.rows.at_ hkl
  have er : g.rows.getD kn [] = r := by rw [List.getD_eq_getElem?_getD, hrk]; rfl
  rw [er] at hro
  obtain ⟨hrl8, hrb⟩ := hro
  have hrn8 : rn < r.length := by omega
  have hx : r[rn]? = some r[rn] := List.getElem?_eq_getElem hrn8
  have hxb := hrb r[rn] (List.getElem_mem _)
  have hbx := bits_xor hxb.1 hmb.1 (by omega) (by omega)
  have hG := Lib.hid (show (⟨g.rows.set kn (r.set rn (xorI r[rn] m)), g.ones, g.cols⟩ : Gb) = bendG g kn rn m by unfold bendG bendR bendRow; rw [er, show r.getD rn 0 = r[rn] by rw [List.getD_eq_getElem?_getD, hx]; rfl])
  obtain ⟨gu, cu, eu, -, hgu, hcu⟩ := own_at hOu (by intro e; rw [e] at hrn8; simp at hrn8)
  subst eu
  have hxc := hcu rn _ hx
  have hxf := hOu.free rn
  subst e8
  clear xa0 xa1 xa2 xa3 xb0 xb1 xb2 xr0 xr1 xr2 xrf0 xrf1 xrf2
  replace HK0 := Lib.hid (HK0.out.step hb)
  replace HK1 := Lib.hid (HK1.out.step hb)
  replace HK2 := Lib.hid (HK2.out.step hb)
  replace HB := Lib.hid (below_step HB.out hb)
  clear hb
  have hg0 := World.block_lt_of_cell? w9 _ hcell
  have hal := (Below.refl w9.heap.size w9).alloc (Nat.le_refl _) (.cells #[.slice (some ⟨g0, 0, none⟩) g.rows.length c0, .slice Ao g.ones.length co, .slice Ac g.cols.length cc] 50)
  have hw2 := HK2.out.lt
  have O8 := Lib.hid (O.below hal)
  have O9 := Lib.hid ((hOu.below hal).put rn (xorI r[rn] m))
  have HVS := Lib.hid hvs
  obtain ⟨w8, hw8⟩ : ∃ W, w9.alloc (.cells #[.slice (some ⟨g0, 0, none⟩) g.rows.length c0, .slice Ao g.ones.length co, .slice Ac g.cols.length cc] 50) = W := ⟨_, rfl⟩
  have HBX : Hid (Blk w8 w9.heap.size 50 #[.slice (some ⟨g0, 0, none⟩) g.rows.length c0, .slice Ao g.ones.length co, .slice Ac g.cols.length cc]) := by rw [← hw8]; exact Blk.new _ _ _
  have z0 : w8.cell? ⟨w9.heap.size, 0, none⟩ = some (.slice (some ⟨g0, 0, none⟩) g.rows.length c0) := HBX.out.cell 0
  have z1 : w8.cell? ⟨w9.heap.size, 1, none⟩ = some (.slice Ao g.ones.length co) := HBX.out.cell 1
  have z2 : w8.cell? ⟨w9.heap.size, 2, none⟩ = some (.slice Ac g.cols.length cc) := HBX.out.cell 2
  rw [hw8] at O8 O9 hal
  have q0 := (hal.cell (p := ⟨g0, kn, none⟩) hg0).trans hcell
  have q1 := (hal.cell (p := ⟨gu, rn, none⟩) hgu).trans hxc
  have q2 := (hal.frozen (p := ⟨gu, rn, none⟩) hgu).trans hxf
  have hne : gu ≠ w9.heap.size := by omega
  have HBN := Lib.hid ((below_step HB.out hal).setCell (p := ⟨gu, rn, none⟩) (show w.heap.size ≤ gu by have := hOu.ge gu rfl; omega) (.int .i64 (xorI r[rn] m)))
  have hgr := hOu.ge gu rfl
  replace HK2 := Lib.hid (HK2.out.step hal)
  have hr2 : gu ≠ w.heap.size + 1 + 1 := by omega
  have hr3 : ¬ w9.heap.size = w.heap.size + 1 + 1 := by omega
  have xr0 : w8.cell? ⟨w.heap.size + 1 + 1, 0, none⟩ = some (.slice none 0 0) := HK2.out.cell 0
  have xrf0 : w8.frozen? ⟨w.heap.size + 1 + 1, 0, none⟩ = false := HK2.out.free 0
  have xr1 : w8.cell? ⟨w.heap.size + 1 + 1, 1, none⟩ = some (.slice none 0 0) := HK2.out.cell 1
  have xrf1 : w8.frozen? ⟨w.heap.size + 1 + 1, 1, none⟩ = false := HK2.out.free 1
  have xr2 : w8.cell? ⟨w.heap.size + 1 + 1, 2, none⟩ = some (.slice none 0 0) := HK2.out.cell 2
  have xrf2 : w8.frozen? ⟨w.heap.size + 1 + 1, 2, none⟩ = false := HK2.out.free 2
  have H9 := Lib.hid (OwnGb.put O8.out HVS.out (grown_set w8 ⟨gu, rn, none⟩ (.int .i64 (xorI r[rn] m))) O9.out)
  rw [hG.out] at H9
  clear hal hOu O hcell hxc hxf hcu hx hG er
  try clear HKX
  generalize r[rn] = x at *
  go_wp2
  refine bodyPost_ret (v := .tuple #[gbV (.slice (some ⟨g0, 0, none⟩) g.rows.length c0) (.slice Ao g.ones.length co) (.slice Ac g.cols.length cc), .bool true]) (by simp [results, Tryz.results45, go_sem, gbV, xr0, xr1, xr2]) rfl ⟨_, _, _, vs, by rw [HM.out]; rfl, ?_, ?_⟩
  · rw [HM.out]; exact (((H9.out.setLow hlow 0 _).setLow hlow 1 _).setLow hlow 2 _).mono hsz
  · exact ((HBN.out.setCell (p := ⟨w.heap.size + 1 + 1, 0, none⟩) (by simp; omega) _).setCell (p := ⟨w.heap.size + 1 + 1, 1, none⟩) (by simp; omega) _).setCell (p := ⟨w.heap.size + 1 + 1, 2, none⟩) (by simp; omega) _
end Go.Proofs.YtejeppjmlgfiaaaGreat

/- The contract of the draw of labels of the outs. Condition: the bytes read as bytes. -/
namespace Go.Proofs.YtejeppjmlgfiaaaGreat
open Go.RowKit
set_option linter.unusedVariables false
set_option maxHeartbeats 4000000
section
variable {W w wr w' : World} {g n m N rb x : Nat} {cd : Value} {c : Cir} {gv ov u v : Value} {a b l : List Int}
theorem Pk.lw (h : Pk W g cd n rb x c gv ov u v a b wr) : Lw W wr.heap.size x gv ov := ⟨h.grown.size, h.box.lt, fun b hb => own_lt h.gates b hb, fun b hb => h.outs.lt b hb⟩
theorem Pk.hi (h : Pk W g cd n rb x c gv ov (.slice none 0 0) (.slice none 0 0) [] [] wr) (h0 : CodeIn W cd g) (l : Lw W N x gv ov) (hb : Below N wr w') : Pk W g cd n rb x c gv ov (.slice none 0 0) (.slice none 0 0) [] [] w' := by
  obtain ⟨h1, h2, h3, h4⟩ := h.lt
  have hl := l.lo
  obtain ⟨hc, hg⟩ := Cur.low h0 h.cur h.grown (hb.mono l.lo) h1
  exact ⟨own_hi h.gates hb l.ngv, own_hi h.outs hb l.nov, OwnI.nil _ _, OwnI.nil _ _, h.box.below hb l.nx, h.res.below hb (by omega), hc, hg, h.lt⟩
theorem Pk.cir (h : Pk W g cd n rb x c gv ov u v a b wr) : CirIn wr gv ov c := ⟨h.gates.gates, h.outs.ints⟩
theorem Pk.with_ (h : Pk W g cd n rb x c gv ov (.slice none 0 0) (.slice none 0 0) [] [] wr) (hu : OwnI wr W.heap.size u a) : Pk W g cd n rb x c gv ov u (.slice none 0 0) a [] wr := ⟨h.gates, h.outs, hu, h.lb, h.box, h.res, h.cur, h.grown, h.lt⟩
end
section
variable {w : World} {cd : Value} {l0 : List Int}
set_option maxRecDepth 100000 in
theorem c_spec_DrawTrueLabels (h : Byts w cd l0) : Calls Tryz.prog 48 #[cd] w fun e w' => (∃ (c : Cir) (gv ov u : Value) (k r : Int) (l : List Int), e = .returned (.tuple #[cirV c gv ov, .int .i64 k, .int .i64 r, u]) ∧ AnC c ∧ l.length ≤ 41 ∧ CirIn w' gv ov c ∧ Ints w' u l) ∧ Below w.heap.size w w' := by
  obtain ⟨A0, c0, rfl⟩ := h.form
  obtain ⟨hC, hR, hB, hS⟩ := pk_new h
  obtain ⟨W, hW⟩ : ∃ W, (w.alloc (.cells #[.int .i64 0, .int .i64 0, .slice none 0 0, .slice none 0 0] 26)).alloc (.cells #[.slice A0 l0.length c0, .int .i64 0, .int .u64 0] 71) = W := ⟨_, rfl⟩
  rw [hW] at hC hR hB hS
  have HW := Lib.hid (And.intro hR (And.intro hB hS))
  have HC := Lib.hid hC
  clear h hR hB hS hC
  go_enter Tryz.func48, Tryz.ntmps48
  go_wp2_with fail
  clear hW
  refine (c_anyCircuit HC.out (by omega)).mono ?_
  rintro e w1 ⟨c, gv, ov, rfl, hs, hog, hoo, -, hc1, hg1⟩
  obtain ⟨Ag, cg, eg, -⟩ := own_form hog
  obtain ⟨Ao, co, eo, -⟩ := own_form hoo
  subst eg eo
  have HP := Lib.hid (Ck.start HC.out HW.out.1 (by have := HW.out.2.2; omega) hog hoo hc1 hg1)
  have HS := Lib.hid hs
  clear hog hoo hc1 hg1 hs
  unfold cirV
  go_wp2_with fail
  refine (HP.out.c_secret (by omega)).mono ?_
  rintro e w2 ⟨k, rfl, hP2⟩
  replace HP := Lib.hid hP2
  clear hP2
  go_wp2_with fail
  refine (HP.out.c_offset (by omega)).mono ?_
  rintro e w3 ⟨r, rfl, hP3⟩
  have hP := Pk.start HC.out HW.out.1 (by have := HW.out.2.2; omega) hP3.gates hP3.outs hP3.cur hP3.grown
  obtain ⟨w4, hw4⟩ : ∃ V, w3.alloc (.cells #[.int .i64 c.i0, .int .i64 c.i1, .slice Ag c.gs.length cg, .slice Ao c.outs.length co] 26) = V := ⟨_, rfl⟩
  rw [hw4] at hP
  have HQ := Lib.hid hP
  clear hP3 hP HP
  go_upto_region 3 with fail
  clear hw4
  generalize w3.heap.size = x at *
  obtain ⟨x0, x1, x2, x3⟩ := HQ.out.four
  have HGK := Lib.hid (c_spec_gbKeys' (key := k) (off := r) HQ.out.cir)
  have ho41 : c.outs.length ≤ 41 := HS.out.2.2
  rcases hkb : (cirB c && inB k 0 1000000000 && offB r) with _ | _
  · rw [hkb] at HGK
    go_wp2_with fail
    refine HGK.out.mono ?_
    rintro e w5 ⟨rfl, hb5⟩
    have hP5 := HQ.out.below hb5
    obtain ⟨y0, y1, y2, y3⟩ := hP5.four
    obtain ⟨r0, r1, r2, r3, f0, f1, f2, f3⟩ := hP5.resf
    obtain ⟨d1, d2, d3, d4, k0, k1, k2, k3⟩ := hP5.done HW.out.2.1 (Nat.le_refl _) (Nat.le_succ _) HW.out.2.1.size
    have HD := Lib.hid (And.intro d1 (And.intro d2 d4))
    have HK := Lib.hid (And.intro k0 (And.intro k1 (And.intro k2 k3)))
    clear d1 d2 d3 d4 k0 k1 k2 k3 hP5 hb5 x0 x1 x2 x3
    go_wp2
    obtain ⟨k0, k1, k2, k3⟩ := HK.out
    exact bodyPost_ret (v := .tuple #[cirV c (.slice Ag c.gs.length cg) (.slice Ao c.outs.length co), .int .i64 k, .int .i64 r, .slice none 0 0]) (by simp [results, Tryz.results48, go_sem, k0, k1, k2, k3, cirV]) rfl ⟨⟨c, _, _, _, k, r, [], rfl, HS.out, by simp, HD.out.1, HD.out.2.1⟩, HD.out.2.2⟩
  · rw [hkb] at HGK
    simp only [Bool.and_eq_true] at hkb
    have hcb := cirB_bd hkb.1.1
    have hkk := inB_bd hkb.1.2
    have hob := offB_bd hkb.2
    have HCB := Lib.hid hkb.1.1
    clear hkb
    go_wp2_with fail
    refine HGK.out.mono ?_
    rintro e w5 ⟨rfl, hb5⟩
    have HP5 := Lib.hid (HQ.out.below hb5)
    have hP0 := HP5.out.drew
    clear hb5 x0 x1 x2 x3 HQ HGK
    have hgz := fun (V : World) (h : CirIn V (.slice Ag c.gs.length cg) (.slice Ao c.outs.length co) c) => c_spec_gbZeros (w := V) h HCB.out hkk ⟨hob.1, hob.2.1⟩
    unfold cirV at hgz
    have HGZ := Lib.hid hgz
    clear hgz
    have hzl : (zrM (gbZ r) (gbR r) k r c.ins.toNat c.gs).zs.length ≤ 400 ∧ (∀ j ∈ c.outs, 0 ≤ j ∧ j < ((zrM (gbZ r) (gbR r) k r c.ins.toNat c.gs).zs.length : Int)) := by
      have h2 := (zr_inv (F := gbZ r) (R := gbR r) (key := k) (off := r) (n := c.ins.toNat) (cirB_kinds HCB.out) c.gs.length (Nat.le_refl _)).1
      rw [List.take_of_length_le (Nat.le_refl _)] at h2
      refine ⟨by rw [h2]; unfold Cir.ins; omega, fun j hj => ?_⟩
      have h1 := allB_bd (cirB_outs HCB.out) j hj
      unfold Cir.wires at h1
      have h0 : 0 ≤ c.ins := by unfold Cir.ins; omega
      omega
    have HZB := Lib.hid hzl.2
    have hzl2 : (zrM (gbZ r) (gbR r) k r c.ins.toNat c.gs).zs.length ≤ 2097152 := by omega
    generalize (zrM (gbZ r) (gbR r) k r c.ins.toNat c.gs).zs = zs at *
    clear hzl
    go_wp2_with fail
    go_region_held3 (fun w' => w'.cell? ⟨x, 0, none⟩ = some (.int .i64 c.i0) ∧ w'.cell? ⟨x, 1, none⟩ = some (.int .i64 c.i1) ∧ w'.cell? ⟨x, 2, none⟩ = some (.slice Ag c.gs.length cg) ∧ w'.cell? ⟨x, 3, none⟩ = some (.slice Ao c.outs.length co))
      (first | with_reducible exact hPp.four | with_reducible exact hPz.four | with_reducible exact hP0.four)
      (first
        | (go_at_call 101; (with_reducible refine (HGZ.out _ hP0.cir).mono ?_); rintro e wz ⟨uz, rfl, hz, hbz⟩; obtain ⟨Az, cz, rfl, -⟩ := own_form hz; have hPz := hP0.below hbz; have HZ := Lib.hid hz.ints; have hszz := hbz.size; clear hz hbz)
        | (go_at_call 94; (with_reducible refine (c_spec_ciPick HZ.out hPz.cir.outs hzl2 (by omega) HZB.out).mono ?_); rintro e wp ⟨up, rfl, hp, hbp⟩; obtain ⟨Ap, cp, rfl, -⟩ := own_form hp; have hPp := hPz.below hbp; have HPK := Lib.hid hp; have hszp := hbp.size; clear hp hbp))
    all_goals
      have HPp := Lib.hid (hPp.more (m := 1000) (by omega))
      have HCW := Lib.hid (HC.out.1)
      have HLW := Lib.hid hPp.lw
      have hgW : w.heap.size + 1 < W.heap.size := hPp.lt.1
      have HWP := Lib.hid (show W.heap.size ≤ wp.heap.size from hPp.lw.lo)
      have hwp0 : w.heap.size + 1 < wp.heap.size := Nat.lt_of_lt_of_le hgW HWP.out
      have hpl : (pickM zs c.outs).length ≤ 41 := by rw [pickM_length]; exact ho41
      have HPK2 := Lib.hid (HPK.out.mono (Nat.le_trans hPz.grown.size (Nat.le_refl _)))
      have HLL := Lib.hid HPK.out.lt
      clear hPp hPz hP0 HPK HZ HP5 hszz hszp HGZ
      generalize pickM zs c.outs = L at *
      go_wp2
      go_loopw [10, 38] (fun u i wr => ∃ (j : Nat) (l : List Int), j ≤ L.length ∧ i = .int .i64 j ∧ Hid (l.length = j) ∧ Hid (OwnI wr wp.heap.size u l) ∧ Hid (OwnI wr W.heap.size (.slice Ap L.length cp) L) ∧ Hid (Pk W (w.heap.size + 1) (.slice A0 l0.length c0) (1000 + 2 * j) w.heap.size x c (.slice Ag c.gs.length cg) (.slice Ao c.outs.length co) (.slice none 0 0) (.slice none 0 0) [] [] wr) ∧ wp.heap.size ≤ wr.heap.size) (fun _ i _ => L.length - (intOf i).toNat)
      case atStart => exact ⟨0, [], Nat.zero_le _, rfl, Lib.hid rfl, Lib.hid (OwnI.nil _ _), HPK2, HPp, Nat.le_refl _⟩
      case round =>
        clear HPK2 HPp
        obtain ⟨j, l, hj, rfl, HJ, HO, HLI, HPk, hzk⟩ := hrel
        by_cases hlt : j < L.length
        · obtain ⟨bb, oo, z, rfl, hbl, hz, hcz⟩ := HLI.out.ints.rd.int_at hlt
          have hlm : l.length ≤ 41 := by have := HJ.out; omega
          clear hz
          go_wp2_with fail
          refine (c_pick HPk.out.cur (by omega) (by omega)).mono ?_
          rintro e w5 ⟨v, rfl, ⟨q, rfl, -⟩, hc5, hg5⟩
          have HP5 := Lib.hid (HPk.out.draw hg5 hc5)
          have HO5 := Lib.hid (HO.out.grown hg5 (fun b hb e => by have h7 := HO.out.ge b hb; injection e with e; omega))
          have HL5 := Lib.hid (HLI.out.grown hg5 (fun b hb e => by have h7 := HLI.out.ge b hb; injection e with e; omega))
          have hz5 : wp.heap.size ≤ w5.heap.size := Nat.le_trans hzk hg5.size
          clear hc5 hg5 HO HPk HLI
          go_wp2_with (at_builtin; refine wp_app1 (B := wp.heap.size) rfl rfl Tryz.underlying24 info_int rfl HO5.out rfl rfl rfl (by unfold maxLen; omega) (by omega) hz5 ?_; intro v' w9 ho hg hfr)
          have hbn := (Below.refl wp.heap.size w5).grown hg hz5 (fun b hb => HO5.out.ge b hb)
          have HP9 := Lib.hid (HP5.out.hi HCW.out HLW.out hbn)
          have HL9 := Lib.hid (show OwnI w9 W.heap.size _ L from own_hi HL5.out hbn HLL.out)
          have hz9 := Nat.le_trans hz5 hg.size
          go_roundw
          case rel => exact ⟨j + 1, _, by omega, by go_num, Lib.hid (by have := HJ.out; simp; omega), Lib.hid (OwnI.snoc ho), HL9, Lib.hid (HP9.out.more (by omega)), hz9⟩
          case measure => simp [intOf]; omega
        · have HJ2 := Lib.hid (show l.length = L.length by have := HJ.out; omega)
          have HLM := Lib.hid (show l.length ≤ 41 by have := HJ2.out; omega)
          have hlm : l.length ≤ 41 := HLM.out
          obtain ⟨Au, cu, rfl, -⟩ := own_form HO.out
          clear HLI
          rcases Nat.eq_zero_or_pos l.length with hl0 | hl0
          · have hnl : ¬ (0 : Int) < (l.length : Int) := by omega
            clear hl0
            obtain ⟨y0, y1, y2, y3⟩ := HPk.out.four
            obtain ⟨r0, r1, r2, r3, f0, f1, f2, f3⟩ := HPk.out.resf
            obtain ⟨d1, d2, d3, d4, k0, k1, k2, k3⟩ := (HPk.out.with_ (HO.out.mono HWP.out)).done HW.out.2.1 (Nat.le_refl _) (Nat.le_succ _) HW.out.2.1.size
            have HD := Lib.hid (And.intro d1 (And.intro d2 d4))
            have HK := Lib.hid (And.intro k0 (And.intro k1 (And.intro k2 k3)))
            clear d1 d2 d3 d4 k0 k1 k2 k3
            go_wp2
            obtain ⟨k0, k1, k2, k3⟩ := HK.out
            exact bodyPost_ret (v := .tuple #[cirV c (.slice Ag c.gs.length cg) (.slice Ao c.outs.length co), .int .i64 k, .int .i64 r, .slice Au l.length cu]) (by simp [results, Tryz.results48, go_sem, k0, k1, k2, k3, cirV]) rfl ⟨⟨c, _, _, _, ⟨k, r, rfl⟩, HS.out, l, HLM.out, HD.out.1, HD.out.2.1⟩, HD.out.2.2⟩
          · have hnl : (0 : Int) < (l.length : Int) := by omega
            obtain ⟨gu, cu2, eu, hgu, -, -, -⟩ := own_pos HO.out hl0
            injection eu with e1 e2 e3
            subst e1 e3
            clear e2
            go_wp2_with fail
            refine (c_one HPk.out.cur (by omega) (by omega)).mono ?_
            rintro e w5 ⟨v, rfl, ⟨bb, rfl⟩, hc5, hg5⟩
            have HP5 := Lib.hid (HPk.out.draw hg5 hc5)
            have HO5 := Lib.hid (HO.out.grown hg5 (fun b hb e => by have h7 := HO.out.ge b hb; injection e with e; omega))
            have hz5 : wp.heap.size ≤ w5.heap.size := Nat.le_trans hzk hg5.size
            clear hc5 hg5 HO HPk
            cases bb
            · obtain ⟨y0, y1, y2, y3⟩ := HP5.out.four
              obtain ⟨r0, r1, r2, r3, f0, f1, f2, f3⟩ := HP5.out.resf
              obtain ⟨d1, d2, d3, d4, k0, k1, k2, k3⟩ := (HP5.out.with_ (HO5.out.mono HWP.out)).done HW.out.2.1 (Nat.le_refl _) (Nat.le_succ _) HW.out.2.1.size
              have HD := Lib.hid (And.intro d1 (And.intro d2 d4))
              have HK := Lib.hid (And.intro k0 (And.intro k1 (And.intro k2 k3)))
              clear d1 d2 d3 d4 k0 k1 k2 k3
              go_wp2
              obtain ⟨k0, k1, k2, k3⟩ := HK.out
              exact bodyPost_ret (v := .tuple #[cirV c (.slice Ag c.gs.length cg) (.slice Ao c.outs.length co), .int .i64 k, .int .i64 r, .slice (some ⟨gu, 0, none⟩) l.length cu]) (by simp [results, Tryz.results48, go_sem, k0, k1, k2, k3, cirV]) rfl ⟨⟨c, _, _, _, k, r, l, rfl, HS.out, HLM.out, HD.out.1, HD.out.2.1⟩, HD.out.2.2⟩
            · go_wp2_with fail
              refine (c_label HP5.out.cur (by omega)).mono ?_
              rintro e w6 ⟨v, rfl, ⟨q, rfl, -, -⟩, hc6, hg6⟩
              have HP6 := Lib.hid (HP5.out.draw hg6 hc6)
              have HO6 := Lib.hid (HO5.out.grown hg6 (fun b hb e => by have h7 := HO5.out.ge b hb; injection e with e; omega))
              clear hc6 hg6 HO5 HP5
              obtain ⟨y9, hy9⟩ : ∃ y, l[0]? = some y := ⟨_, List.getElem?_eq_getElem hl0⟩
              have hcl := HO6.out.rd hy9
              have hfl := HO6.out.free 0
              have HO7 := Lib.hid (HO6.out.put 0 q)
              have HP7 := Lib.hid (HP6.out.hi HCW.out HLW.out ((Below.refl wp.heap.size w6).setCell (p := ⟨gu, 0, none⟩) hgu (.int .i64 q)))
              clear hy9
              obtain ⟨y0, y1, y2, y3⟩ := HP7.out.four
              obtain ⟨r0, r1, r2, r3, f0, f1, f2, f3⟩ := HP7.out.resf
              obtain ⟨d1, d2, d3, d4, k0, k1, k2, k3⟩ := (HP7.out.with_ (HO7.out.mono HWP.out)).done HW.out.2.1 (Nat.le_refl _) (Nat.le_succ _) HW.out.2.1.size
              have HD := Lib.hid (And.intro d1 (And.intro d2 d4))
              have HK := Lib.hid (And.intro k0 (And.intro k1 (And.intro k2 k3)))
              clear d1 d2 d3 d4 k0 k1 k2 k3
              go_wp2
              obtain ⟨k0, k1, k2, k3⟩ := HK.out
              exact bodyPost_ret (v := .tuple #[cirV c (.slice Ag c.gs.length cg) (.slice Ao c.outs.length co), .int .i64 k, .int .i64 r, .slice (some ⟨gu, 0, none⟩) l.length cu]) (by simp [results, Tryz.results48, go_sem, k0, k1, k2, k3, cirV]) rfl ⟨⟨c, _, _, _, k, r, (l.set 0 q), rfl, HS.out, by rw [List.length_set]; exact HLM.out, HD.out.1, HD.out.2.1⟩, HD.out.2.2⟩
end
end Go.Proofs.YtejeppjmlgfiaaaGreat
