/- Contract of the closure that keeps the rows that are used: it appends to a list behind a pointer. Conditions: the labels and the row are valid; the list's own block, the pointer's block and the row's lie apart. -/
import Derived.Test.YtllaojfgenopbaaWirI
import Derived.Test.YtllaojfgenopbaaWirL
import Derived.Test.YtllaojfgenopbaaSta
import Derived.Test.YtllaojfgenopbaaWirU
namespace Go.Proofs.Ytllaojfgenopbaa
open Go.RowKit
set_option linter.unusedVariables false

/-- The block q holds a list, owned from block B on, whose own block is not q. -/
structure Kep (w : World) (q B : Nat) (u : Value) (l : List Int) : Prop where
  blk : Blk w q 23 #[u]
  own : OwnI w B u l
  ne : ∀ g, u.ownBlock = some g → g ≠ q
theorem Kep.below {w w' : World} {q B : Nat} {u : Value} {l : List Int} (h : Kep w q B u l) (hb : Below w.heap.size w w') : Kep w' q B u l := ⟨h.blk.step hb, h.own.below hb, h.ne⟩
theorem Kep.grown {w w' : World} {q B : Nat} {u : Value} {l : List Int} {row : Option Nat} (h : Kep w q B u l) (hb : w.grownBy w' row) (hq : some q ≠ row) (hu : ∀ g, u.ownBlock = some g → some g ≠ row) : Kep w' q B u l := ⟨h.blk.grown hb hq, h.own.grown hb hu, h.ne⟩
/-- The value that stands for a block. -/
abbrev bq (q : Nat) : Value := .slice (some ⟨q, 0, none⟩) 0 0
set_option maxHeartbeats 2000000 in
theorem c_OpenedRows1 {n x y : Int} {q B C : Nat} {u vr : Value} {r l : List Int} {w : World} (hk : Kep w q B u l) (hl : l.length ≤ 300) (hB : B ≤ w.heap.size) (hn : 0 ≤ n ∧ n ≤ 1000000) (hx : 0 ≤ x ∧ x ≤ 65535) (hy : 0 ≤ y ∧ y ≤ 65535)
    (hr : OwnI w C vr r) (hqr : ∀ g, vr.ownBlock = some g → g ≠ q) (hur : Apt u vr) (hrl : (r.length : Int) = 3) (hrb : ∀ z ∈ r, 0 ≤ z ∧ z ≤ 65535) :
    Calls Try.prog 69 #[.int .i64 n, .int .i64 x, .int .i64 y, vr, .pointer (some ⟨q, 0, none⟩)] w fun e w' => e = .returned (.int .i64 (openM n x y r)) ∧ ∃ u', Kep w' q B u' (l ++ [x % 2 * 2 + y % 2]) ∧ Only [bq q, u] w w' ∧ (∀ g, u'.ownBlock = some g → u.ownBlock = some g ∨ w.heap.size ≤ g) := by
  have x0 : w.cell? ⟨q, 0, none⟩ = some u := hk.blk.cell 0
  have hax := bits_and_one hx.1 (by omega)
  have hay := bits_and_one hy.1 (by omega)
  have hx2 : x % 2 = 0 ∨ x % 2 = 1 := by omega
  have hy2 : y % 2 = 0 ∨ y % 2 = 1 := by omega
  have HN := Lib.hid (show 2 * (x % 2) + y % 2 = x % 2 * 2 + y % 2 by omega)
  have hw1 : IntKind.i64.wrap (2 * (x % 2)) = 2 * (x % 2) := IntWalk.i64_in _ (by omega)
  have hw2 : IntKind.i64.wrap (2 * (x % 2) + y % 2) = 2 * (x % 2) + y % 2 := IntWalk.i64_in _ (by omega)
  have HK := Lib.hid hk
  have HR := Lib.hid hr
  have HRL := Lib.hid hrl
  have hql := hk.blk.lt
  obtain ⟨A, cu, rfl, -⟩ := hk.own.ints
  obtain ⟨Ar, cr, rfl, -⟩ := hr.ints
  clear hk hr hrl
  go_enter Try.func69, Try.ntmps69
  go_wp2_with (at_builtin; refine wp_app1 (B := B) rfl rfl Try.underlying23 info_int rfl HK.out.own rfl rfl rfl (by unfold maxLen; omega) (by omega) hB ?_; intro v' w2 ho hg hfr; obtain ⟨A9, c9, rfl, -⟩ := (OwnI.snoc ho).ints; have HK2 := Lib.hid (HK.out.blk.grown hg (fun e => HK.out.ne q e.symm rfl)); have y0 : w2.cell? ⟨q, 0, none⟩ = some _ := HK2.out.cell 0; have yf := HK2.out.free 0)
  have hln : (l ++ [2 * (x % 2) + y % 2]).length = l.length + 1 := by simp
  rw [hln] at ho hfr
  clear hln
  obtain ⟨v', hv'⟩ : ∃ V, Value.slice A9 (l.length + 1) c9 = V := ⟨_, rfl⟩
  rw [hv'] at ho hfr ⊢
  have hne : ∀ g, v'.ownBlock = some g → g ≠ q := fun g e e2 => by
    rcases hfr g e with h | h
    · exact HK.out.ne g h e2
    · omega
  have HV := Lib.hid ((HR.out.grown hg (fun g e e2 => hur g e2.symm e)).far (p := ⟨q, 0, none⟩) hqr v')
  have HO := Lib.hid ((OwnI.snoc ho).far (p := ⟨q, 0, none⟩) hne v')
  have HKS := Lib.hid (show Blk (w2.setCell ⟨q, 0, none⟩ v') q 23 #[v'] by have := HK2.out.set_ 0 v'; simpa using this)
  refine (c_impl_openedAnd hn hx hy HV.out.ints HRL.out hrb).mono ?_
  rintro e w4 ⟨rfl, hb⟩
  go_wp2
  go_ret
  refine ⟨rfl, v', ⟨HKS.out.step hb, by have := HO.out.below hb; rw [HN.out] at this; exact this, hne⟩, ?_, fun g e => hfr g e⟩
  exact ((Only.ofGrown (F := [bq q, .slice A l.length cu]) hg (by simp)).trans ((only_set w2 q 0 v').sub (by simp))).trans (Only.ofBelow hb (Nat.le_refl _))

theorem Only.cell {F : List Value} {w w' : World} (h : Only F w w') {p : Addr} (hp : p.block < w.heap.size) (hF : ∀ u ∈ F, u.ownBlock ≠ some p.block) : w'.cell? p = w.cell? p := by
  unfold World.cell?; rw [h.2 p.block hp hF]
theorem bq_own {q g : Nat} (h : (bq q).ownBlock = some g) : g = q := by simp [Value.ownBlock] at h; exact h.symm
theorem Blk.keptBy {w w' : World} {F : List Value} {b : Nat} {t : TypeId} {cs : Array Value} (h : Blk w b t cs) (ho : Only F w w') (hF : ∀ u ∈ F, u.ownBlock ≠ some b) : Blk w' b t cs := (ho.2 b h.lt hF).trans h
/-- The state of the walk: the labels o and, behind the block q, the rows u that are used; the tables are as they were. -/
structure Opn (wB wr : World) (q C n : Nat) (T : Gb) (rv nv cv : Value) (vs : List Value) (o u : Value) (l us : List Int) : Prop where
  low : Below wB.heap.size wB wr
  own : OwnI wr (n + 2) o l
  kep : Kep wr q wB.heap.size u us
  lo : ∀ g, u.ownBlock = some g → g < C ∨ n + 2 ≤ g
  apt : Apt o u
  tab : OwnGb wr C rv nv cv vs T
  tbd : ∀ x ∈ nv :: cv :: rv :: vs, ∀ b, x.ownBlock = some b → C ≤ b ∧ b < n
  box : Blk wr (n + 1) 49 #[rv, nv, cv]
  qC : wB.heap.size ≤ q ∧ q < C ∧ C ≤ n ∧ n + 2 ≤ wr.heap.size
section
variable {wB wr w2 : World} {q C n : Nat} {T : Gb} {rv nv cv o u o' u' : Value} {vs : List Value} {l us l' us' : List Int}
theorem Opn.step (h : Opn wB wr q C n T rv nv cv vs o u l us) (hb : Below wr.heap.size wr w2) : Opn wB w2 q C n T rv nv cv vs o u l us :=
  ⟨below_step h.low hb, h.own.below hb, h.kep.below hb, h.lo, h.apt, h.tab.below hb, h.tbd, h.box.step hb, h.qC.1, h.qC.2.1, h.qC.2.2.1, Nat.le_trans h.qC.2.2.2 hb.size⟩
theorem Opn.app (h : Opn wB wr q C n T rv nv cv vs o u l us) (ho : OwnI w2 (n + 2) o' l') (hg : wr.grownBy w2 o.ownBlock) (hfr : ∀ g, o'.ownBlock = some g → o.ownBlock = some g ∨ wr.heap.size ≤ g) : Opn wB w2 q C n T rv nv cv vs o' u l' us := by
  have hq := h.qC
  have hge := h.own.ge
  have hlw : ∀ v : Value, (∀ g, v.ownBlock = some g → g < n + 2) → Apt o v := fun v hv g e e' => by have := hge g e; have := hv g e'; omega
  have hOn : Only [o] wr w2 := Only.ofGrown hg (by simp)
  refine ⟨hOn.below (by have := h.low.size; exact this) (fun x hx g e => by simp at hx; subst hx; have := hge g e; omega) |> fun k => h.low.trans k, ho, h.kep.grown hg (fun e => by have := hge q e.symm; omega) (fun g e e' => h.apt g e'.symm e), h.lo, ?_, ?_, h.tbd, h.box.grown hg (fun e => by have := hge _ e.symm; omega), hq.1, hq.2.1, hq.2.2.1, Nat.le_trans hq.2.2.2 hg.size⟩
  · intro g e e'
    rcases hfr g e with h1 | h1
    · exact h.apt g h1 e'
    · have := h.kep.own.lt g e'; omega
  · refine h.tab.only hOn fun x hx u' hu' => ?_
    simp at hx; subst hx
    exact hlw u' fun g e => by have := h.tbd u' hu' g e; omega
theorem Opn.put (h : Opn wB wr q C n T rv nv cv vs o u l us) (hk : Kep w2 q wB.heap.size u' us') (ho : Only [bq q, u] wr w2) (hfr : ∀ g, u'.ownBlock = some g → u.ownBlock = some g ∨ wr.heap.size ≤ g) : Opn wB w2 q C n T rv nv cv vs o u' l us' := by
  have hq := h.qC
  refine ⟨h.low.trans (ho.below h.low.size fun x hx g e => ?_), h.own.only ho fun x hx => ?_, hk, fun g e => ?_, fun g e e' => ?_, h.tab.only ho fun x hx u' hu' => ?_, h.tbd, h.box.keptBy ho fun x hx e => ?_, hq.1, hq.2.1, hq.2.2.1, Nat.le_trans hq.2.2.2 ho.size⟩
  · simp only [List.mem_cons, List.not_mem_nil, or_false] at hx
    rcases hx with rfl | rfl
    · have := bq_own e; omega
    · exact h.kep.own.ge g e
  · simp only [List.mem_cons, List.not_mem_nil, or_false] at hx
    rcases hx with rfl | rfl
    · intro g e e'; have := bq_own e; have := h.own.ge g e'; omega
    · exact h.apt.symm
  · rcases hfr g e with h1 | h1
    · exact h.lo g h1
    · omega
  · rcases hfr g e' with h1 | h1
    · exact h.apt g e h1
    · have := h.own.lt g e; omega
  · simp only [List.mem_cons, List.not_mem_nil, or_false] at hx
    have ht := h.tbd u' hu'
    rcases hx with rfl | rfl
    · intro g e e'; have := bq_own e; have := ht g e'; omega
    · intro g e e'; have := ht g e'; have := h.lo g e; omega
  · simp only [List.mem_cons, List.not_mem_nil, or_false] at hx
    rcases hx with rfl | rfl
    · have := bq_own e; omega
    · have := h.lo _ e; omega
end
set_option maxRecDepth 100000 in
set_option maxHeartbeats 4000000 in
theorem c_labels_kept {c : Cir} {T : Gb} {gv ov rv nv cv vi : Value} {inp : List Int} {wB w : World} {vs : List Value} {u0 : Value} {q C : Nat} (hw : Below wB.heap.size wB w) (h : CirIn wB gv ov c) (hc : cirB c = true) (hown : OwnGb w C rv nv cv vs T) (hkep : Kep w q wB.heap.size u0 []) (hu0 : ∀ g, u0.ownBlock = some g → g < C) (hqC : wB.heap.size ≤ q ∧ q < C ∧ C ≤ w.heap.size) (ht : tabB 3 c T = true)
    (hi : Ints wB vi inp) (hil : (inp.length : Int) = c.ins) (hib : ∀ x ∈ inp, 0 ≤ x ∧ x ≤ 65535) :
    Calls Try.prog 68 #[cirV c gv ov, gbV rv nv cv, vi, .func (.func 69) #[] #[.pointer (some ⟨q, 0, none⟩)]] w fun e w' => ∃ v u, e = .returned v ∧ Kep w' q wB.heap.size u (usedM openM T inp c.gs).2 ∧ Below wB.heap.size wB w' := by
  have hbd := cirB_bd hc
  have h2 := hown.gbIn
  have HOWN := Lib.hid hown
  have HKEP := Lib.hid hkep
  have HTBD := Lib.hid hown.bd
  have HWW := Lib.hid hw
  clear hkep hw
  have hgl : c.gs.length ≤ 300 := hbd.2.2.2.2.1
  have hins : 0 ≤ c.ins ∧ c.ins ≤ 40 := by unfold Cir.ins; omega
  have htt := tabB_of ht
  have HT := Lib.hid htt
  have HGB := Lib.hid (cirB_gates hc)
  have HKB := Lib.hid (cirB_kinds hc)
  have HBD := Lib.hid (wires_bd (F := openM) (n := 0) (T := T) hib htt.2.2.2.1 (fun r hr => (htt.2.1 r hr).2) (fun w x y r hx hr => openM_bd hr))
  have HI := Lib.hid hi
  obtain ⟨hg, ho⟩ := h
  obtain ⟨A, cg, rfl, hlg, hmg, hrg⟩ := hg
  obtain ⟨A', co, rfl, -⟩ := ho
  obtain ⟨hr, ho, hcc⟩ := h2
  obtain ⟨A1, c1, rfl, hl1, hm1, hat⟩ := hr.form
  obtain ⟨A2, c2, rfl, hl2, hm2, hro⟩ := ho
  obtain ⟨A3, c3, rfl, -⟩ := hcc
  have HRG := Lib.hid hrg
  have hrl : (T.rows.length : Int) = cnt 1 c.gs := htt.1
  have hol : (T.ones.length : Int) = cnt 3 c.gs := htt.2.2.1
  have HRL := Lib.hid hrl
  have HOL := Lib.hid hol
  have hcb1 := cnt_bd 1 c.gs
  have hcb3 := cnt_bd 3 c.gs
  have hrn : T.rows.length ≤ 300 := by omega
  have hon : T.ones.length ≤ 300 := by omega
  unfold maxLen at hmg hm1 hm2
  clear hc hr hbd hat hrg htt ht hib hro hrl hol hcb1 hcb3
  unfold cirV gbV
  obtain ⟨w0, hw0⟩ : ∃ W, (w.alloc (.cells #[.int .i64 c.i0, .int .i64 c.i1, .slice A c.gs.length cg, .slice A' c.outs.length co] 31)).alloc (.cells #[.slice A1 T.rows.length c1, .slice A2 T.ones.length c2, .slice A3 T.cols.length c3] 49) = W := ⟨_, rfl⟩
  have HKC := Lib.hid ((Blk.new w 31 #[.int .i64 c.i0, .int .i64 c.i1, .slice A c.gs.length cg, .slice A' c.outs.length co]).alloc (.cells #[.slice A1 T.rows.length c1, .slice A2 T.ones.length c2, .slice A3 T.cols.length c3] 49))
  rw [hw0] at HKC
  have HKG := Lib.hid (Blk.new (w.alloc (.cells #[.int .i64 c.i0, .int .i64 c.i1, .slice A c.gs.length cg, .slice A' c.outs.length co] 31)) 49 #[.slice A1 T.rows.length c1, .slice A2 T.ones.length c2, .slice A3 T.cols.length c3])
  simp only [World.size_alloc, hw0] at HKG
  have hz0 : w.heap.size + 2 ≤ w0.heap.size := by rw [← hw0]; simp
  have HB : Hid (Below w.heap.size w w0) := by rw [← hw0]; exact ((Below.refl w.heap.size w).alloc (Nat.le_refl _) _).alloc (by simp) _
  go_enter Try.func68, Try.ntmps68
  go_wp2_with fail
  clear hw0
  refine (c_slices_Clone (HI.out.below (HWW.out.trans (HB.out.mono HWW.out.size))) (by omega)).mono ?_
  rintro e w1 ⟨u, rfl, hu, hb⟩
  have HB1 := Lib.hid (below_step HB.out hb)
  replace HKG := Lib.hid (HKG.out.step hb)
  have HO1 := Lib.hid (show Opn wB w1 q C w.heap.size T (.slice A1 T.rows.length c1) (.slice A2 T.ones.length c2) (.slice A3 T.cols.length c3) vs u u0 inp [] from
    ⟨HWW.out.trans (HB1.out.mono HWW.out.size), hu.mono hz0, HKEP.out.below HB1.out, fun g e => Or.inl (hu0 g e), fun g e e' => by have h1 := hu.ge g e; have h3 := hu0 g e'; omega, HOWN.out.below HB1.out, HTBD.out, HKG.out, hqC.1, hqC.2.1, hqC.2.2, Nat.le_trans hz0 hb.size⟩)
  have hz1 : w.heap.size + 2 ≤ w1.heap.size := Nat.le_trans hz0 hb.size
  replace HKC := Lib.hid (HKC.out.step hb)
  have x2 : w1.cell? ⟨w.heap.size, 2, none⟩ = some (.slice A c.gs.length cg) := HKC.out.cell 2
  clear hb hu HKC HKG HB HKEP HOWN
  go_wp2
  clear x2
  go_loopw [9, 10, 11, 20] (fun o a n i wr => ∃ (k : Nat) (u : Value), k ≤ c.gs.length ∧ i = .int .i64 k ∧ a = .int .i64 ((wiresM openM T inp (c.gs.take k)).2.1 : Nat) ∧ n = .int .i64 ((wiresM openM T inp (c.gs.take k)).2.2 : Nat) ∧ Hid (Opn wB wr q C w.heap.size T (.slice A1 T.rows.length c1) (.slice A2 T.ones.length c2) (.slice A3 T.cols.length c3) vs o u (wiresM openM T inp (c.gs.take k)).1 (usedM openM T inp (c.gs.take k)).2)) (fun _ _ _ i _ => c.gs.length - (intOf i).toNat)
  case atStart => exact ⟨0, _, Nat.zero_le _, rfl, rfl, rfl, HO1⟩
  case round =>
    obtain ⟨k, u, hk, rfl, rfl, rfl, HP⟩ := hrel
    by_cases hlt : k < c.gs.length
    · obtain ⟨b, o, g, rfl, hbl, hgk, c0, c1', c2'⟩ := (HRG.out.below HP.out.low).gate_at hlt
      have hgb := gate_ab (gatesB_at _ _ k g HGB.out hgk)
      obtain ⟨i1, i2, i3⟩ := wires_inv (F := openM) (T := T) (inp := inp) HKB.out k (by omega)
      have HS := Lib.hid (wires_snoc (F := openM) (T := T) (inp := inp) hgk)
      have HSU := Lib.hid (used_snoc (F := openM) (T := T) (inp := inp) hgk)
      have hul := used_len (F := openM) (T := T) (inp := inp) HKB.out k (by omega)
      have huf := used_fst openM T inp (c.gs.take k)
      have hbs := HBD.out (c.gs.take k)
      have hlt1 := fun (hj : g.k = 1) => cnt_lt hgk hj
      have hlt3 := fun (hj : g.k = 3) => cnt_lt hgk hj
      generalize hs : wiresM openM T inp (c.gs.take k) = s at *
      generalize hv : usedM openM T inp (c.gs.take k) = v at *
      clear hs hv hgk
      obtain ⟨v1, ul⟩ := v
      simp only at huf hul HP
      subst huf
      obtain ⟨gk, ga, gb⟩ := g
      obtain ⟨l, na, no⟩ := v1
      simp only at c0 c1' c2' hgb i1 i2 i3 hbs hlt1 hlt3 HP
      obtain ⟨Au, cu, rfl, hlu, hmu, hru⟩ := own_form HP.out.own
      unfold maxLen at hmu
      have hnu : ul.length = na := by omega
      have hcl1 := cnt_le 1 c.gs k
      have hcb1 := cnt_bd 1 c.gs
      have hul300 : ul.length ≤ 300 := by omega
      clear hcl1 hcb1
      have hll : (l.length : Int) = c.ins + k := by omega
      have hl340 : l.length ≤ 340 := by omega
      have HLL := Lib.hid hll
      have HBS := Lib.hid hbs
      have HRU := Lib.hid hru
      obtain ⟨wb, hwb⟩ : ∃ W, wr.alloc (.cells #[.int .i64 gk, .int .i64 ga, .int .i64 gb] 94) = W := ⟨_, rfl⟩
      have hbb : Below wr.heap.size wr wb := by rw [← hwb]; exact (Below.refl _ _).alloc (Nat.le_refl _) _
      have HBX : Hid (Blk wb wr.heap.size 94 #[.int .i64 gk, .int .i64 ga, .int .i64 gb]) := by rw [← hwb]; exact Blk.new _ _ _
      have y0 : wb.cell? ⟨wr.heap.size, 0, none⟩ = some (.int .i64 gk) := HBX.out.cell 0
      have y1 : wb.cell? ⟨wr.heap.size, 1, none⟩ = some (.int .i64 ga) := HBX.out.cell 1
      have y2 : wb.cell? ⟨wr.heap.size, 2, none⟩ = some (.int .i64 gb) := HBX.out.cell 2
      have HBB := Lib.hid hbb
      have HP2 := Lib.hid (HP.out.step hbb)
      have hsz : w.heap.size + 2 ≤ wb.heap.size := HP2.out.qC.2.2.2
      have hrw : wr.heap.size < wb.heap.size := by rw [← hwb]; simp
      clear hbb hll hbs hru hlu hmu hul
      have hkk : gk = 0 ∨ gk = 1 ∨ gk = 2 ∨ gk = 3 := by omega
      rcases hkk with rfl | rfl | rfl | rfl
      · -- exclusive-or
        have hab := hgb.2.1 (Or.inl rfl)
        obtain ⟨ja, rfl, hja, hea⟩ := elt_at (l := l) hab.1 (by have := HLL.out; omega)
        obtain ⟨jb, rfl, hjb, heb⟩ := elt_at (l := l) hab.2.2.1 (by have := HLL.out; omega)
        obtain ⟨bo, oo, xa, rfl, hbo, hxa, hca⟩ := (HRU.out.below HBB.out).int_at hja
        obtain ⟨bo2, oo2, xb, e2, hbo2, hxb, hcb⟩ := (HRU.out.below HBB.out).int_at hjb
        injection e2 with e2; injection e2 with e2 e2'; subst e2 e2'
        have exa := hea.symm.trans hxa
        have exb := heb.symm.trans hxb
        injection exa with exa
        injection exb with exb
        have ba := elt_bd (k := (ja : Int)) HBS.out
        have bb := elt_bd (k := (jb : Int)) HBS.out
        rw [exa] at ba
        rw [exb] at bb
        have hxor := bits_xor ba.1 bb.1 (by omega) (by omega)
        have HW := Lib.hid (show wireStep openM T (l, na, no) ⟨0, (ja : Int), (jb : Int)⟩ = (l ++ [xorI xa xb], na, no) by unfold wireStep; simp only [if_true]; rw [exa, exb])
        have HWU := Lib.hid (show (uStep openM T ((l, na, no), ul) ⟨0, (ja : Int), (jb : Int)⟩).2 = ul by unfold uStep; simp)
        clear hgb hlt1 hlt3 hea heb hxa hxb exa exb hab i1 i2 i3
        have hja0 : (0 : Int) ≤ (ja : Int) := Int.natCast_nonneg _
        have hja1 : (ja : Int) < (l.length : Int) := by omega
        have hjb0 : (0 : Int) ≤ (jb : Int) := Int.natCast_nonneg _
        have hjb1 : (jb : Int) < (l.length : Int) := by omega
        go_wp2_with fail
        go_region_held3 (fun w' => w'.cell? ⟨wr.heap.size, 1, none⟩ = some (.int .i64 (ja : Int)) ∧ w'.cell? ⟨wr.heap.size, 2, none⟩ = some (.int .i64 (jb : Int)) ∧ w'.cell? ⟨bo, oo + ja, none⟩ = some (.int .i64 xa) ∧ w'.cell? ⟨bo, oo + jb, none⟩ = some (.int .i64 xb)) (exact ⟨y1, y2, hca, hcb⟩) (fail)
        go_wp2_with (at_builtin; refine wp_app1 (B := w.heap.size + 2) rfl rfl Try.underlying23 info_int rfl (own_drew HP2.out.own) rfl rfl rfl (by unfold maxLen; omega) (by omega) hsz ?_; intro v' w9 ho hg hfr)
        have HPn := Lib.hid ((HP2.out.step (Below.refl _ _).drew).app (OwnI.snoc ho) hg hfr)
        go_roundw
        case rel => exact ⟨k + 1, _, by omega, by go_num, by rw [HS.out, HW.out], by rw [HS.out, HW.out], by rw [HS.out, HW.out, HSU.out, HWU.out]; exact HPn⟩
        case measure => simp [intOf]; omega
      · -- and
        have hab := hgb.2.1 (Or.inr rfl)
        obtain ⟨ja, rfl, hja, hea⟩ := elt_at (l := l) hab.1 (by have := HLL.out; omega)
        obtain ⟨jb, rfl, hjb, heb⟩ := elt_at (l := l) hab.2.2.1 (by have := HLL.out; omega)
        obtain ⟨bo, oo, xa, rfl, hbo, hxa, hca⟩ := (HRU.out.below HBB.out).int_at hja
        obtain ⟨bo2, oo2, xb, e2, hbo2, hxb, hcb⟩ := (HRU.out.below HBB.out).int_at hjb
        injection e2 with e2; injection e2 with e2 e2'; subst e2 e2'
        have exa := hea.symm.trans hxa
        have exb := heb.symm.trans hxb
        injection exa with exa
        injection exb with exb
        have ba := elt_bd (k := (ja : Int)) HBS.out
        have bb := elt_bd (k := (jb : Int)) HBS.out
        rw [exa] at ba
        rw [exb] at bb
        have hna : na < T.rows.length := by have h1 := hlt1 rfl; have h2 := HRL.out; omega
        obtain ⟨br, cr0, vr, r, Ar, cr, er, -, -, hvr, hrr, evr, hcr2, hor⟩ := HP2.out.tab.rows.at_ hna
        injection er with er1 er2 er3
        subst er1 evr
        have hrt := HT.out.2.1 r (List.mem_of_getElem? hrr)
        have HRT := Lib.hid hrt
        have HOR := Lib.hid hor
        have HW := Lib.hid (show wireStep openM T (l, na, no) ⟨1, (ja : Int), (jb : Int)⟩ = (l ++ [openM (l.length : Int) xa xb r], na + 1, no) by unfold wireStep; simp only [Int.reduceEq, if_false]; rw [exa, exb, getD_at hrr])
        have HWU := Lib.hid (show (uStep openM T ((l, na, no), ul) ⟨1, (ja : Int), (jb : Int)⟩).2 = ul ++ [xa % 2 * 2 + xb % 2] by unfold uStep; simp only [if_true]; rw [exa, exb])
        have g1 : wb.cell? ⟨w.heap.size + 1, 0, none⟩ = some (.slice (some ⟨br, 0, none⟩) T.rows.length c1) := HP2.out.box.cell 0
        have htv := HTBD.out _ (List.mem_cons_of_mem _ (List.mem_cons_of_mem _ (List.mem_cons_of_mem _ (List.mem_of_getElem? hvr))))
        have htr := HTBD.out (.slice (some ⟨br, 0, none⟩) T.rows.length c1) (by simp) br rfl
        have hob : w.heap.size + 2 ≤ bo := HP2.out.own.ge bo rfl
        have hqq := HP.out.qC
        have hqr : ∀ g, (Value.slice Ar r.length cr).ownBlock = some g → g ≠ q := fun g e e2 => by have := htv g e; omega
        have hur : Apt u (.slice Ar r.length cr) := fun g e e' => by have := htv g e'; have := HP2.out.lo g e; omega
        have HFar := Lib.hid (fun (b : Nat) (hb : b ≠ q) (hb2 : (C ≤ b ∧ b < w.heap.size + 2) ∨ b = bo ∨ b = wr.heap.size) => show ∀ x ∈ [bq q, u], x.ownBlock ≠ some b from fun x hx e => by
          simp only [List.mem_cons, List.not_mem_nil, or_false] at hx
          rcases hx with rfl | rfl
          · exact hb (bq_own e)
          · rcases hb2 with h1 | h1 | h1
            · have := HP.out.lo b e; omega
            · subst h1; exact HP.out.apt _ rfl e
            · have := HP.out.kep.own.lt b e; omega)
        have HXO := Lib.hid hbo
        have HBL := Lib.hid (World.block_lt_of_cell? _ _ hcr2)
        clear hgb hlt1 hlt3 hea heb hxa hxb exa exb hab i1 i2 i3 hrr hrt hor hvr er2 er3
        have hja0 : (0 : Int) ≤ (ja : Int) := Int.natCast_nonneg _
        have hja1 : (ja : Int) < (l.length : Int) := by omega
        have hjb0 : (0 : Int) ≤ (jb : Int) := Int.natCast_nonneg _
        have hjb1 : (jb : Int) < (l.length : Int) := by omega
        have hna0 : (0 : Int) ≤ (na : Int) := Int.natCast_nonneg _
        have hna1 : (na : Int) < (T.rows.length : Int) := by omega
        have hbow : bo < wb.heap.size := World.block_lt_of_cell? _ _ hca
        have hbrw : br < wb.heap.size := World.block_lt_of_cell? _ _ hcr2
        go_wp2_with fail
        go_region_held3 (fun w' => w'.cell? ⟨wr.heap.size, 1, none⟩ = some (.int .i64 (ja : Int)) ∧ w'.cell? ⟨wr.heap.size, 2, none⟩ = some (.int .i64 (jb : Int)) ∧ w'.cell? ⟨bo, oo + ja, none⟩ = some (.int .i64 xa) ∧ w'.cell? ⟨bo, oo + jb, none⟩ = some (.int .i64 xb) ∧ w'.cell? ⟨w.heap.size + 1, 0, none⟩ = some (.slice (some ⟨br, 0, none⟩) T.rows.length c1) ∧ w'.cell? ⟨br, na, none⟩ = some (.slice Ar r.length cr))
          (first | exact KP.out | exact ⟨y1, y2, hca, hcb, g1, hcr2⟩)
          (first
            | (go_at_call 69; refine (c_OpenedRows1 (HP2.out.step (Below.refl _ _).drew).kep hul300 (HP2.out.low.size) (by omega) ba bb (HOR.out.below (Below.refl _ _).drew) hqr hur HRT.out.1 HRT.out.2).mono ?_; rintro e wz ⟨rfl, u2, hk2, ho2, hf2⟩; have HP3 := Lib.hid ((HP2.out.step (Below.refl _ _).drew).put hk2 ho2 hf2); have KP := Lib.hid (And.intro ((ho2.cell (p := ⟨wr.heap.size, 1, none⟩) hrw (HFar.out wr.heap.size (by omega) (Or.inr (Or.inr rfl)))).trans y1) (And.intro ((ho2.cell (p := ⟨wr.heap.size, 2, none⟩) hrw (HFar.out wr.heap.size (by omega) (Or.inr (Or.inr rfl)))).trans y2) (And.intro ((ho2.cell (p := ⟨bo, oo + ja, none⟩) hbow (HFar.out bo (by omega) (Or.inr (Or.inl rfl)))).trans hca) (And.intro ((ho2.cell (p := ⟨bo, oo + jb, none⟩) hbow (HFar.out bo (by omega) (Or.inr (Or.inl rfl)))).trans hcb) (And.intro ((ho2.cell (p := ⟨w.heap.size + 1, 0, none⟩) (by show w.heap.size + 1 < wb.heap.size; omega) (HFar.out (w.heap.size + 1) (by omega) (Or.inl (by omega)))).trans g1) ((ho2.cell (p := ⟨br, na, none⟩) hbrw (HFar.out br (by omega) (Or.inl (by omega)))).trans hcr2)))))); clear ho2 hf2 hk2))
        go_wp2_with (at_builtin; refine wp_app1 (B := w.heap.size + 2) rfl rfl Try.underlying23 info_int rfl HP3.out.own rfl rfl rfl (by unfold maxLen; omega) (by omega) HP3.out.qC.2.2.2 ?_; intro v' w9 ho hg hfr)
        have HPn := Lib.hid (HP3.out.app (OwnI.snoc ho) hg hfr)
        go_roundw
        case rel => exact ⟨k + 1, _, by omega, by go_num, by rw [HS.out, HW.out]; go_num, by rw [HS.out, HW.out], by rw [HS.out, HW.out, HSU.out, HWU.out]; exact HPn⟩
        case measure => simp [intOf]; omega
      · -- not
        have hab := hgb.2.2 rfl
        obtain ⟨ja, rfl, hja, hea⟩ := elt_at (l := l) hab.1 (by have := HLL.out; omega)
        obtain ⟨bo, oo, xa, rfl, hbo, hxa, hca⟩ := (HRU.out.below HBB.out).int_at hja
        have exa := hea.symm.trans hxa
        injection exa with exa
        have HW := Lib.hid (show wireStep openM T (l, na, no) ⟨2, (ja : Int), gb⟩ = (l ++ [xa], na, no) by unfold wireStep; simp only [Int.reduceEq, if_false, if_true]; rw [exa])
        have HWU := Lib.hid (show (uStep openM T ((l, na, no), ul) ⟨2, (ja : Int), gb⟩).2 = ul by unfold uStep; simp)
        clear hgb hlt1 hlt3 hea hxa exa hab i1 i2 i3
        have hja0 : (0 : Int) ≤ (ja : Int) := Int.natCast_nonneg _
        have hja1 : (ja : Int) < (l.length : Int) := by omega
        go_wp2_with (at_builtin; refine wp_app1 (B := w.heap.size + 2) rfl rfl Try.underlying23 info_int rfl HP2.out.own rfl rfl rfl (by unfold maxLen; omega) (by omega) hsz ?_; intro v' w9 ho hg hfr)
        have HPn := Lib.hid (HP2.out.app (OwnI.snoc ho) hg hfr)
        go_roundw
        case rel => exact ⟨k + 1, _, by omega, by go_num, by rw [HS.out, HW.out], by rw [HS.out, HW.out], by rw [HS.out, HW.out, HSU.out, HWU.out]; exact HPn⟩
        case measure => simp [intOf]; omega
      · -- one
        have hno : no < T.ones.length := by have h1 := hlt3 rfl; have h2 := HOL.out; omega
        obtain ⟨br, cc, ee, -, hbr, hcc0⟩ := own_at HP2.out.tab.ones (by intro e; rw [e] at hno; simp at hno)
        injection ee with ee1 ee2 ee3
        subst ee1
        obtain ⟨xo, hxo⟩ : ∃ x, T.ones[no]? = some x := ⟨_, List.getElem?_eq_getElem hno⟩
        have hcr2 := hcc0 no xo hxo
        have HW := Lib.hid (show wireStep openM T (l, na, no) ⟨3, ga, gb⟩ = (l ++ [xo], na, no + 1) by unfold wireStep; simp only [Int.reduceEq, if_false, if_true]; rw [getD_at hxo])
        have HWU := Lib.hid (show (uStep openM T ((l, na, no), ul) ⟨3, ga, gb⟩).2 = ul by unfold uStep; simp)
        have g1 : wb.cell? ⟨w.heap.size + 1, 1, none⟩ = some (.slice (some ⟨br, 0, none⟩) T.ones.length c2) := HP2.out.box.cell 1
        clear hgb hlt1 hlt3 i1 i2 i3 hxo hcc0 ee2 ee3
        have hno0 : (0 : Int) ≤ (no : Int) := Int.natCast_nonneg _
        have hno1 : (no : Int) < (T.ones.length : Int) := by omega
        go_wp2_with (at_builtin; refine wp_app1 (B := w.heap.size + 2) rfl rfl Try.underlying23 info_int rfl HP2.out.own rfl rfl rfl (by unfold maxLen; omega) (by omega) hsz ?_; intro v' w9 ho hg hfr)
        have HPn := Lib.hid (HP2.out.app (OwnI.snoc ho) hg hfr)
        go_roundw
        case rel => exact ⟨k + 1, _, by omega, by go_num, by rw [HS.out, HW.out], by rw [HS.out, HW.out]; go_num, by rw [HS.out, HW.out, HSU.out, HWU.out]; exact HPn⟩
        case measure => simp [intOf]; omega
    · obtain rfl : k = c.gs.length := by omega
      have HE := Lib.hid (show c.gs.take c.gs.length = c.gs from List.take_of_length_le (Nat.le_refl _))
      go_wp2
      go_ret
      have HP9 := HP.out
      rw [HE.out] at HP9
      exact ⟨_, _, rfl, HP9.kep, HP9.low⟩
end Go.Proofs.Ytllaojfgenopbaa
