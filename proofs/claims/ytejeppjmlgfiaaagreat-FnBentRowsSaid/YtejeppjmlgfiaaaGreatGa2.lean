/- Contracts of the labels of all wires and of the rows that are used, the reference's. Conditions: the circuit, the tables and the inputs are valid. -/
import Derived.Test.YtejeppjmlgfiaaaGreatWirU
import Derived.Test.YtejeppjmlgfiaaaGreatEv
import Derived.Test.YtejeppjmlgfiaaaGreatInpL
namespace Go.Proofs.YtejeppjmlgfiaaaGreat
open Go.RowKit
set_option linter.unusedVariables false

/-- The call returns the labels of all wires and the rows that are used, in slices of its own. -/
def RetWU (w : World) (s : (List Int × Nat × Nat) × List Int) (e : Ending) (w' : World) : Prop := ∃ u1 u2, e = .returned (.tuple #[u1, u2]) ∧ OwnI w' w.heap.size u1 s.1.1 ∧ OwnI w' w.heap.size u2 s.2 ∧ Below w.heap.size w w'
set_option maxRecDepth 100000 in
set_option maxHeartbeats 2000000 in
theorem c_spec_gbWires {c : Cir} {T : Gb} {gv ov rv nv cv vi : Value} {inp : List Int} {w : World} (h : CirIn w gv ov c) (hc : cirB c = true) (h2 : GbIn w rv nv cv T) (ht : tabB 3 c T = true)
    (hi : Ints w vi inp) (hil : (inp.length : Int) = c.ins) (hib : ∀ x ∈ inp, 0 ≤ x ∧ x ≤ 65535) :
    Calls Tryz.prog 93 #[cirV c gv ov, gbV rv nv cv, vi] w (RetWU w (usedM openM T inp c.gs)) := by
  have hbd := cirB_bd hc
  have hgl : c.gs.length ≤ 300 := hbd.2.2.2.2.1
  have hol2 : c.outs.length ≤ 40 := hbd.2.2.2.2.2
  have hins : 0 ≤ c.ins ∧ c.ins ≤ 40 := by unfold Cir.ins; omega
  have htt := tabB_of ht
  have HT := Lib.hid htt
  have HGB := Lib.hid (cirB_gates hc)
  have HKB := Lib.hid (cirB_kinds hc)
  have HBD := Lib.hid (wires_bd (F := openM) (n := 0) (T := T) hib htt.2.2.2.1 (fun r hr => (htt.2.1 r hr).2) (fun w x y r hx hr => openM_bd hr))
  have HI := Lib.hid hi
  obtain ⟨hg, ho⟩ := h
  obtain ⟨A, cg, rfl, hlg, hmg, hrg⟩ := hg
  obtain ⟨A', co, rfl, -⟩ := ho
  obtain ⟨hr, ho, hcc⟩ := h2
  obtain ⟨A1, c1, rfl, hl1, hm1, hat⟩ := hr.form
  obtain ⟨A2, c2, rfl, hl2, hm2, hro⟩ := ho
  obtain ⟨A3, c3, rfl, -⟩ := hcc
  have HAT := Lib.hid hat
  have HRG := Lib.hid hrg
  have HRO := Lib.hid hro
  have hrl : (T.rows.length : Int) = cnt 1 c.gs := htt.1
  have hol : (T.ones.length : Int) = cnt 3 c.gs := htt.2.2.1
  have HRL := Lib.hid hrl
  have HOL := Lib.hid hol
  have hcb1 := cnt_bd 1 c.gs
  have hcb3 := cnt_bd 3 c.gs
  have hrn : T.rows.length ≤ 300 := by omega
  have hon : T.ones.length ≤ 300 := by omega
  unfold maxLen at hmg hm1 hm2
  clear hc hr hbd hat hrg htt ht hib hro hrl hol hcb1 hcb3
  unfold cirV gbV
  obtain ⟨w0, hw0⟩ : ∃ W, (w.alloc (.cells #[.int .i64 c.i0, .int .i64 c.i1, .slice A c.gs.length cg, .slice A' c.outs.length co] 26)).alloc (.cells #[.slice A1 T.rows.length c1, .slice A2 T.ones.length c2, .slice A3 T.cols.length c3] 50) = W := ⟨_, rfl⟩
  have HKC := Lib.hid ((Blk.new w 26 #[.int .i64 c.i0, .int .i64 c.i1, .slice A c.gs.length cg, .slice A' c.outs.length co]).alloc (.cells #[.slice A1 T.rows.length c1, .slice A2 T.ones.length c2, .slice A3 T.cols.length c3] 50))
  rw [hw0] at HKC
  have HKG := Lib.hid (Blk.new (w.alloc (.cells #[.int .i64 c.i0, .int .i64 c.i1, .slice A c.gs.length cg, .slice A' c.outs.length co] 26)) 50 #[.slice A1 T.rows.length c1, .slice A2 T.ones.length c2, .slice A3 T.cols.length c3])
  simp only [World.size_alloc, hw0] at HKG
  have hz0 : w.heap.size + 2 ≤ w0.heap.size := by rw [← hw0]; simp
  have HB : Hid (Below w.heap.size w w0) := by rw [← hw0]; exact ((Below.refl w.heap.size w).alloc (Nat.le_refl _) _).alloc (by simp) _
  go_enter Tryz.func93, Tryz.ntmps93
  go_wp2_with fail
  clear hw0
  refine (c_spec_l1Own (HI.out.below HB.out) (by omega)).mono ?_
  rintro e w1 ⟨u, rfl, hu, hb⟩
  have HU := Lib.hid (hu.mono hz0)
  have hz1 : w.heap.size + 2 ≤ w1.heap.size := Nat.le_trans hz0 hb.size
  replace HB := Lib.hid (below_step HB.out hb)
  replace HKC := Lib.hid (HKC.out.step hb)
  replace HKG := Lib.hid (HKG.out.step hb)
  have x2 : w1.cell? ⟨w.heap.size, 2, none⟩ = some (.slice A c.gs.length cg) := HKC.out.cell 2
  clear hb hu
  go_wp2
  clear x2
  go_loopw [8, 9, 10, 20] (fun o us n i wr => ∃ k : Nat, k ≤ c.gs.length ∧ i = .int .i64 k ∧ n = .int .i64 ((wiresM openM T inp (c.gs.take k)).2.2 : Nat) ∧ Hid (OwnI wr (w.heap.size + 2) o (wiresM openM T inp (c.gs.take k)).1) ∧ Hid (OwnI wr (w.heap.size + 2) us (usedM openM T inp (c.gs.take k)).2) ∧ Hid (Apt o us) ∧ Hid (Below w.heap.size w wr) ∧ w.heap.size + 2 ≤ wr.heap.size ∧ Hid (Blk wr (w.heap.size + 1) 50 #[.slice A1 T.rows.length c1, .slice A2 T.ones.length c2, .slice A3 T.cols.length c3])) (fun _ _ _ i _ => c.gs.length - (intOf i).toNat)
  case atStart => exact ⟨0, Nat.zero_le _, rfl, rfl, HU, Lib.hid (OwnI.nil _ _), Lib.hid (fun g _ e => by cases e), HB, hz1, HKG⟩
  case round =>
    obtain ⟨k, hk, rfl, rfl, HO, HUS, HAP, HB, hzr, HKG⟩ := hrel
    by_cases hlt : k < c.gs.length
    · obtain ⟨b, o, g, rfl, hbl, hgk, c0, c1', c2'⟩ := (HRG.out.below HB.out).gate_at hlt
      have hgb := gate_ab (gatesB_at _ _ k g HGB.out hgk)
      obtain ⟨i1, i2, i3⟩ := wires_inv (F := openM) (T := T) (inp := inp) HKB.out k (by omega)
      have HS := Lib.hid (wires_snoc (F := openM) (T := T) (inp := inp) hgk)
      have HSU := Lib.hid (used_snoc (F := openM) (T := T) (inp := inp) hgk)
      have hul := used_len (F := openM) (T := T) (inp := inp) HKB.out k (by omega)
      have huf := used_fst openM T inp (c.gs.take k)
      have hbs := HBD.out (c.gs.take k)
      have hlt1 := fun (hj : g.k = 1) => cnt_lt hgk hj
      have hlt3 := fun (hj : g.k = 3) => cnt_lt hgk hj
      generalize hs : wiresM openM T inp (c.gs.take k) = s at *
      generalize hv : usedM openM T inp (c.gs.take k) = v at *
      clear hs hv hgk
      obtain ⟨v1, ul⟩ := v
      simp only at huf hul HUS
      subst huf
      obtain ⟨gk, ga, gb⟩ := g
      obtain ⟨l, na, no⟩ := v1
      simp only at c0 c1' c2' hgb i1 i2 i3 hbs hlt1 hlt3 HO
      have hnu : ul.length = na := by omega
      subst hnu
      have HUL := Lib.hid hul
      clear hul
      obtain ⟨Ax, cx, rfl, hlx, hmx, -⟩ := own_form HUS.out
      unfold maxLen at hmx
      obtain ⟨Au, cu, rfl, hlu, hmu, hru⟩ := own_form HO.out
      unfold maxLen at hmu
      have hll : (l.length : Int) = c.ins + k := by omega
      have hl340 : l.length ≤ 340 := by omega
      have HLL := Lib.hid hll
      have HBS := Lib.hid hbs
      have HRU := Lib.hid hru
      obtain ⟨wb, hwb⟩ : ∃ W, wr.alloc (.cells #[.int .i64 gk, .int .i64 ga, .int .i64 gb] 117) = W := ⟨_, rfl⟩
      have hbb : Below wr.heap.size wr wb := by rw [← hwb]; exact (Below.refl _ _).alloc (Nat.le_refl _) _
      have HBX : Hid (Blk wb wr.heap.size 117 #[.int .i64 gk, .int .i64 ga, .int .i64 gb]) := by rw [← hwb]; exact Blk.new _ _ _
      have y0 : wb.cell? ⟨wr.heap.size, 0, none⟩ = some (.int .i64 gk) := HBX.out.cell 0
      have y1 : wb.cell? ⟨wr.heap.size, 1, none⟩ = some (.int .i64 ga) := HBX.out.cell 1
      have y2 : wb.cell? ⟨wr.heap.size, 2, none⟩ = some (.int .i64 gb) := HBX.out.cell 2
      have HBB := Lib.hid hbb
      have HB2 := Lib.hid (below_step HB.out hbb)
      have HKG2 := Lib.hid (HKG.out.step hbb)
      have HO2 := Lib.hid (HO.out.below hbb)
      have HUS2 := Lib.hid (HUS.out.below hbb)
      have hsz : w.heap.size + 2 ≤ wb.heap.size := Nat.le_trans hzr HBB.out.size
      clear hbb hll hbs hru HB HKG HUS hlu hmu hbl
      have hkk : gk = 0 ∨ gk = 1 ∨ gk = 2 ∨ gk = 3 := by omega
      rcases hkk with rfl | rfl | rfl | rfl
      · -- exclusive-or
        have hab := hgb.2.1 (Or.inl rfl)
        obtain ⟨ja, rfl, hja, hea⟩ := elt_at (l := l) hab.1 (by have := HLL.out; omega)
        obtain ⟨jb, rfl, hjb, heb⟩ := elt_at (l := l) hab.2.2.1 (by have := HLL.out; omega)
        obtain ⟨g0, c9, e9, _, hg0, hcl⟩ := own_at HO.out (by intro e; rw [e] at hja; simp at hja)
        injection e9 with e91 e92 e93
        subst e91
        have ba := elt_bd (k := (ja : Int)) HBS.out
        have bb := elt_bd (k := (jb : Int)) HBS.out
        generalize hxa : elt l (ja : Int) = xa at *
        generalize hxb : elt l (jb : Int) = xb at *
        have hca := (HBB.out.cell (p := ⟨g0, ja, none⟩) hg0).trans (hcl ja xa hea)
        have hcb := (HBB.out.cell (p := ⟨g0, jb, none⟩) hg0).trans (hcl jb xb heb)
        have hxor := bits_xor ba.1 bb.1 (by omega) (by omega)
        have HW := Lib.hid (show wireStep openM T (l, ul.length, no) ⟨0, (ja : Int), (jb : Int)⟩ = (l ++ [xorI xa xb], ul.length, no) by unfold wireStep; simp only [if_true]; rw [hxa, hxb])
        have HWU := Lib.hid (show (uStep openM T ((l, ul.length, no), ul) ⟨0, (ja : Int), (jb : Int)⟩).2 = ul by unfold uStep; simp)
        have q1 := belowCell y1
        have q2 := belowCell y2
        have q3 := belowCell hca
        have q4 := belowCell hcb
        clear hgb hlt1 hlt3 hea heb hab i1 i2 i3 hxa hxb hcl e92 e93
        have hja0 : (0 : Int) ≤ (ja : Int) := Int.natCast_nonneg _
        have hja1 : (ja : Int) < (l.length : Int) := by omega
        have hjb0 : (0 : Int) ≤ (jb : Int) := Int.natCast_nonneg _
        have hjb1 : (jb : Int) < (l.length : Int) := by omega
        go_wp2_with fail
        go_region_held3 (fun w' => w'.cell? ⟨wr.heap.size, 1, none⟩ = some (.int .i64 (ja : Int)) ∧ w'.cell? ⟨wr.heap.size, 2, none⟩ = some (.int .i64 (jb : Int)) ∧ w'.cell? ⟨g0, ja, none⟩ = some (.int .i64 xa) ∧ w'.cell? ⟨g0, jb, none⟩ = some (.int .i64 xb))
          (first | exact KP.out | exact ⟨y1, y2, hca, hcb⟩ | exact ⟨q1 _ (((Below.refl _ _).alloc (Nat.le_refl _) _).drew), q2 _ (((Below.refl _ _).alloc (Nat.le_refl _) _).drew), q3 _ (((Below.refl _ _).alloc (Nat.le_refl _) _).drew), q4 _ (((Below.refl _ _).alloc (Nat.le_refl _) _).drew)⟩)
          ((refine step_app1K (B := w.heap.size + 2) (by rfl) (by rfl) Tryz.underlying24 info_int rfl ((World.ownsRow.alloc HO2.out _).drew) (cell_new wb _ _) (by rfl) (by rfl) rfl (by unfold maxLen; omega) (by omega) (by simp; omega) ?_; intro v' w9 ho hg hfr hkp; have KAW := Lib.hid (((Below.refl wb.heap.size wb).alloc (Nat.le_refl _) (.cells #[.int .i64 (xorI xa xb)] 3)).drew); have KP := Lib.hid (And.intro (hg.cell (q1 _ KAW.out) (fun e => by simp [Value.ownBlock] at e; omega)) (And.intro (hg.cell (q2 _ KAW.out) (fun e => by simp [Value.ownBlock] at e; omega)) (And.intro ((hkp g0 ja rfl hja).trans (q3 _ KAW.out)) ((hkp g0 jb rfl hjb).trans (q4 _ KAW.out)))))))
        have HOa := Lib.hid ((World.ownsRow.alloc HO2.out (.cells #[.int .i64 (xorI xa xb)] 3)).drew)
        have HBa := Lib.hid ((HB2.out.alloc HB2.out.size (.cells #[.int .i64 (xorI xa xb)] 3)).drew)
        have HBn := Lib.hid (below_app HBa.out (own_mono HOa.out (Nat.le_add_right _ 2)) hg (Nat.le_refl _))
        have HKn := Lib.hid (((HKG2.out.alloc (.cells #[.int .i64 (xorI xa xb)] 3)).drew).grown hg (fun e => by have := own_ge HOa.out _ e.symm; omega))
        have HUn := Lib.hid (OwnI.grown (w := (wb.alloc (.cells #[.int .i64 (xorI xa xb)] 3)).drew) (World.ownsRow.alloc HUS2.out (.cells #[.int .i64 (xorI xa xb)] 3)) hg (fun g hg' e => HAP.out g e.symm hg'))
        have HAn := Lib.hid (apt_app (wr := (wb.alloc (.cells #[.int .i64 (xorI xa xb)] 3)).drew) HAP.out (fun g hg' => Nat.lt_of_lt_of_le (HUS2.out.lt g hg') (by simp)) hfr)
        have hzn : w.heap.size + 2 ≤ w9.heap.size := Nat.le_trans (Nat.le_trans hsz (by simp)) hg.size
        clear hxor q1 q2 q3 q4 KP KAW hkp
        go_wp2_with fail
        go_roundw
        case rel => exact ⟨k + 1, by omega, by go_num, by rw [HS.out, HW.out], by rw [HS.out, HW.out]; exact Lib.hid (OwnI.snoc ho), by rw [HSU.out, HWU.out]; exact HUn, HAn, HBn, hzn, HKn⟩
        case measure => simp [intOf]; omega
      · -- and
        have hab := hgb.2.1 (Or.inr rfl)
        obtain ⟨ja, rfl, hja, hea⟩ := elt_at (l := l) hab.1 (by have := HLL.out; omega)
        obtain ⟨jb, rfl, hjb, heb⟩ := elt_at (l := l) hab.2.2.1 (by have := HLL.out; omega)
        obtain ⟨g0, c9, e9, _, hg0, hcl⟩ := own_at HO.out (by intro e; rw [e] at hja; simp at hja)
        injection e9 with e91 e92 e93
        subst e91
        have ba := elt_bd (k := (ja : Int)) HBS.out
        have bb := elt_bd (k := (jb : Int)) HBS.out
        generalize hxa : elt l (ja : Int) = xa at *
        generalize hxb : elt l (jb : Int) = xb at *
        have hca := (HBB.out.cell (p := ⟨g0, ja, none⟩) hg0).trans (hcl ja xa hea)
        have hcb := (HBB.out.cell (p := ⟨g0, jb, none⟩) hg0).trans (hcl jb xb heb)
        have hna : ul.length < T.rows.length := by have h1 := hlt1 rfl; have h2 := HRL.out; omega
        obtain ⟨br, or', Ar, r, cr, rfl, hbr, hrr, hcr, hir⟩ := HAT.out ul.length hna
        have hrt := HT.out.2.1 r (List.mem_of_getElem? hrr)
        have HRT := Lib.hid hrt
        have HIR := Lib.hid hir
        obtain ⟨N, hN⟩ : ∃ N, xa % 2 * 2 + xb % 2 = N := ⟨_, rfl⟩
        have hNb : 0 ≤ N ∧ N ≤ 3 := by omega
        have HW := Lib.hid (show wireStep openM T (l, ul.length, no) ⟨1, (ja : Int), (jb : Int)⟩ = (l ++ [openM (l.length : Int) xa xb r], ul.length + 1, no) by unfold wireStep; simp only [Int.reduceEq, if_false]; rw [hxa, hxb, getD_at hrr])
        have HWU := Lib.hid (show (uStep openM T ((l, ul.length, no), ul) ⟨1, (ja : Int), (jb : Int)⟩).2 = ul ++ [N] by unfold uStep; simp only [if_true]; rw [hxa, hxb, hN])
        have HOM := Lib.hid (show openM (l.length : Int) xa xb r = if 0 < N then xorI (digM [(l.length : Int), 14, xa, xb]) (elt r (N - 1)) else digM [(l.length : Int), 14, xa, xb] by
          unfold openM; rw [show 2 * (xa % 2) + xb % 2 = N by omega])
        have hd0 := digM_bd [(l.length : Int), 14, xa, xb]
        have HC0 := Lib.hid (fun W => c_spec_gbCipher (w := W) (n := (l.length : Int)) (x := xa) (y := xb) (by omega) (by omega) (by omega))
        generalize digM [(l.length : Int), 14, xa, xb] = d0 at *
        have g1 : wb.cell? ⟨w.heap.size + 1, 0, none⟩ = some (.slice (some ⟨br, or', none⟩) T.rows.length c1) := HKG2.out.cell 0
        have hcr2 := (HB2.out.cell (p := ⟨br, or' + ul.length, none⟩) hbr).trans hcr
        have q1 := belowCell y1
        have q2 := belowCell y2
        have q3 := belowCell hca
        have q4 := belowCell hcb
        have G1 := Lib.hid (belowCell g1)
        have G2 := Lib.hid (belowCell hcr2)
        have ta := tmod2 ba.1
        have tb := tmod2 bb.1
        have ew1 : IntKind.i64.wrap (xa % 2 * 2) = xa % 2 * 2 := IntWalk.i64_in _ (by omega)
        have ew2 : IntKind.i64.wrap N = N := IntWalk.i64_in _ (by omega)
        have hja0 : (0 : Int) ≤ (ja : Int) := Int.natCast_nonneg _
        have hja1 : (ja : Int) < (l.length : Int) := by omega
        have hjb0 : (0 : Int) ≤ (jb : Int) := Int.natCast_nonneg _
        have hjb1 : (jb : Int) < (l.length : Int) := by omega
        have hna0 : (0 : Int) ≤ (ul.length : Int) := Int.natCast_nonneg _
        have hna1 : (ul.length : Int) < (T.rows.length : Int) := by omega
        clear hgb hlt1 hlt3 hea heb hab i1 i2 i3 hxa hxb hcl e92 e93 hrr hrt hir hcr y1 y2 hca hcb g1 hcr2
        go_wp2_with fail
        go_region_held3 (fun w' => Below wb.heap.size wb w') (first | (exact (Below.refl _ _).drew) | assumption) (fail)
        go_wp2_with fail
        go_region_held3 (fun w' => Below wb.heap.size wb w')
          (first | assumption | (refine below_step ?_ HD.out; assumption) | (exact (Below.refl _ _).drew.drew))
          (first
            | (go_at_call 148; refine (HC0.out _).mono ?_; rintro e wz ⟨rfl, hb⟩; have HD := Lib.hid hb))
        have hE : Below wb.heap.size wb wz := by assumption
        have HEE := Lib.hid hE
        have HB3 := Lib.hid (below_step HB2.out hE)
        have HKG3 := Lib.hid (HKG2.out.step hE)
        have HUS3 := Lib.hid (HUS2.out.below hE)
        have HO3 := Lib.hid (HO2.out.below hE)
        have hsz3 := Nat.le_trans hsz hE.size
        have HRI := Lib.hid (HIR.out.below HB3.out)
        clear hE q1 q2 q3 q4 HC0
        by_cases hNp : 0 < N
        · obtain ⟨jr, hjr, hjl, hje⟩ := elt_at (l := r) (k := N - 1) (by omega) (by have := HRT.out.1; omega)
          have hrb := elt_bd (k := N - 1) HRT.out.2
          have hrd9 : Rd wz Ar (r.map (Value.int .i64)) := by
            obtain ⟨A9, k9, e9, _, _, h3⟩ := HRI.out
            injection e9 with e1; subst e1; exact h3
          obtain ⟨b9, o9, rx, rfl, hb9, hrx, hc9⟩ := hrd9.int_at hjl
          have hrxe : elt r (N - 1) = rx := by have := hje.symm.trans hrx; injection this
          rw [hrxe] at hrb
          have HV := Lib.hid (show openM (l.length : Int) xa xb r = xorI d0 rx by rw [HOM.out, if_pos hNp, hrxe])
          have hxor := bits_xor hd0.1 hrb.1 (by omega) (by omega)
          have z1 := G1.out _ HEE.out
          have z2 := G2.out _ HEE.out
          have hjr0 : (0 : Int) ≤ (jr : Int) := Int.natCast_nonneg _
          have hjr1 : (jr : Int) < (r.length : Int) := by omega
          have hNg : N > 0 := hNp
          clear hje hrx hrxe HOM
          go_wp2_with (at_builtin; first
            | (refine wp_app1 (B := w.heap.size + 2) rfl rfl Tryz.underlying24 info_int rfl HUS3.out rfl rfl rfl (by unfold maxLen; omega) (by omega) hsz3 ?_; intro v8 w8 ho8 hg8 hf8; have HB8 := Lib.hid (below_app HB3.out (own_mono HUS3.out (Nat.le_add_right _ 2)) hg8 (Nat.le_refl _)); have HU8 := Lib.hid (OwnI.snoc ho8); have HO8 := Lib.hid (OwnI.grown HO3.out hg8 (fun g hg' e => HAP.out g hg' e.symm)); have HA8 := Lib.hid (apt_app (Apt.symm HAP.out) (fun g hg' => HO3.out.lt g hg') hf8).symm; have hs8 := Nat.le_trans hsz3 hg8.size; have HK8 := Lib.hid (HKG3.out.grown hg8 (fun e => by have := own_ge HUS3.out _ e.symm; omega)); clear ho8 hg8 hf8)
            | (refine wp_app1 (B := w.heap.size + 2) rfl rfl Tryz.underlying24 info_int rfl HO8.out rfl rfl rfl (by unfold maxLen; omega) (by omega) hs8 ?_; intro v9 w9 ho9 hg9 hf9))
          have HB9 := Lib.hid (below_app HB8.out (own_mono HO8.out (Nat.le_add_right _ 2)) hg9 (Nat.le_refl _))
          have HU9 := Lib.hid (OwnI.grown HU8.out hg9 (fun g hg' e => HA8.out g e.symm hg'))
          have HA9 := Lib.hid (apt_app HA8.out (fun g hg' => HU8.out.lt g hg') hf9)
          have hs9 := Nat.le_trans hs8 hg9.size
          have HK9 := Lib.hid (HK8.out.grown hg9 (fun e => by have := own_ge HO8.out _ e.symm; omega))
          have HOn := Lib.hid (OwnI.snoc ho9)
          clear ho9 hg9 hf9
          go_roundw
          case rel => exact ⟨k + 1, by omega, by go_num, by rw [HS.out, HW.out], by rw [HS.out, HW.out, HV.out]; exact HOn, by rw [HSU.out, HWU.out]; exact HU9, HA9, HB9, hs9, HK9⟩
          case measure => simp [intOf]; omega
        · have HV := Lib.hid (show openM (l.length : Int) xa xb r = d0 by rw [HOM.out, if_neg hNp])
          have hNg : ¬ N > 0 := hNp
          clear HOM
          go_wp2_with (at_builtin; first
            | (refine wp_app1 (B := w.heap.size + 2) rfl rfl Tryz.underlying24 info_int rfl HUS3.out rfl rfl rfl (by unfold maxLen; omega) (by omega) hsz3 ?_; intro v8 w8 ho8 hg8 hf8; have HB8 := Lib.hid (below_app HB3.out (own_mono HUS3.out (Nat.le_add_right _ 2)) hg8 (Nat.le_refl _)); have HU8 := Lib.hid (OwnI.snoc ho8); have HO8 := Lib.hid (OwnI.grown HO3.out hg8 (fun g hg' e => HAP.out g hg' e.symm)); have HA8 := Lib.hid (apt_app (Apt.symm HAP.out) (fun g hg' => HO3.out.lt g hg') hf8).symm; have hs8 := Nat.le_trans hsz3 hg8.size; have HK8 := Lib.hid (HKG3.out.grown hg8 (fun e => by have := own_ge HUS3.out _ e.symm; omega)); clear ho8 hg8 hf8)
            | (refine wp_app1 (B := w.heap.size + 2) rfl rfl Tryz.underlying24 info_int rfl HO8.out rfl rfl rfl (by unfold maxLen; omega) (by omega) hs8 ?_; intro v9 w9 ho9 hg9 hf9))
          have HB9 := Lib.hid (below_app HB8.out (own_mono HO8.out (Nat.le_add_right _ 2)) hg9 (Nat.le_refl _))
          have HU9 := Lib.hid (OwnI.grown HU8.out hg9 (fun g hg' e => HA8.out g e.symm hg'))
          have HA9 := Lib.hid (apt_app HA8.out (fun g hg' => HU8.out.lt g hg') hf9)
          have hs9 := Nat.le_trans hs8 hg9.size
          have HK9 := Lib.hid (HK8.out.grown hg9 (fun e => by have := own_ge HO8.out _ e.symm; omega))
          have HOn := Lib.hid (OwnI.snoc ho9)
          clear ho9 hg9 hf9
          go_roundw
          case rel => exact ⟨k + 1, by omega, by go_num, by rw [HS.out, HW.out], by rw [HS.out, HW.out, HV.out]; exact HOn, by rw [HSU.out, HWU.out]; exact HU9, HA9, HB9, hs9, HK9⟩
          case measure => simp [intOf]; omega
      · -- not
        have hab := hgb.2.2 rfl
        obtain ⟨ja, rfl, hja, hea⟩ := elt_at (l := l) hab.1 (by have := HLL.out; omega)
        obtain ⟨g0, c9, e9, _, hg0, hcl⟩ := own_at HO.out (by intro e; rw [e] at hja; simp at hja)
        injection e9 with e91 e92 e93
        subst e91
        generalize hxa : elt l (ja : Int) = xa at *
        have hca := (HBB.out.cell (p := ⟨g0, ja, none⟩) hg0).trans (hcl ja xa hea)
        have HW := Lib.hid (show wireStep openM T (l, ul.length, no) ⟨2, (ja : Int), gb⟩ = (l ++ [xa], ul.length, no) by unfold wireStep; simp only [Int.reduceEq, if_false, if_true]; rw [hxa])
        have HWU := Lib.hid (show (uStep openM T ((l, ul.length, no), ul) ⟨2, (ja : Int), gb⟩).2 = ul by unfold uStep; simp)
        clear hgb hlt1 hlt3 hea hxa hab i1 i2 i3 hcl e92 e93
        have hja0 : (0 : Int) ≤ (ja : Int) := Int.natCast_nonneg _
        have hja1 : (ja : Int) < (l.length : Int) := by omega
        go_wp2_with (at_builtin; refine wp_app1 (B := w.heap.size + 2) rfl rfl Tryz.underlying24 info_int rfl HO2.out rfl rfl rfl (by unfold maxLen; omega) (by omega) hsz ?_; intro v9 w9 ho9 hg9 hf9)
        have HB9 := Lib.hid (below_app HB2.out (own_mono HO2.out (Nat.le_add_right _ 2)) hg9 (Nat.le_refl _))
        have HU9 := Lib.hid (OwnI.grown HUS2.out hg9 (fun g hg' e => HAP.out g e.symm hg'))
        have HA9 := Lib.hid (apt_app HAP.out (fun g hg' => HUS2.out.lt g hg') hf9)
        have hs9 := Nat.le_trans hsz hg9.size
        have HK9 := Lib.hid (HKG2.out.grown hg9 (fun e => by have := own_ge HO2.out _ e.symm; omega))
        have HOn := Lib.hid (OwnI.snoc ho9)
        clear ho9 hg9 hf9
        go_roundw
        case rel => exact ⟨k + 1, by omega, by go_num, by rw [HS.out, HW.out], by rw [HS.out, HW.out]; exact HOn, by rw [HSU.out, HWU.out]; exact HU9, HA9, HB9, hs9, HK9⟩
        case measure => simp [intOf]; omega
      · -- one
        have hno : no < T.ones.length := by have h1 := hlt3 rfl; have h2 := HOL.out; omega
        obtain ⟨br, or', xo, rfl, hbr, hxo, hcr⟩ := HRO.out.int_at hno
        have HW := Lib.hid (show wireStep openM T (l, ul.length, no) ⟨3, ga, gb⟩ = (l ++ [xo], ul.length, no + 1) by unfold wireStep; simp only [Int.reduceEq, if_false, if_true]; rw [getD_at hxo])
        have HWU := Lib.hid (show (uStep openM T ((l, ul.length, no), ul) ⟨3, ga, gb⟩).2 = ul by unfold uStep; simp)
        have g1 : wb.cell? ⟨w.heap.size + 1, 1, none⟩ = some (.slice (some ⟨br, or', none⟩) T.ones.length c2) := HKG2.out.cell 1
        have hcr2 := (HB2.out.cell (p := ⟨br, or' + no, none⟩) hbr).trans hcr
        clear hgb hlt1 hlt3 i1 i2 i3 hxo hcr
        have hno0 : (0 : Int) ≤ (no : Int) := Int.natCast_nonneg _
        have hno1 : (no : Int) < (T.ones.length : Int) := by omega
        go_wp2_with (at_builtin; refine wp_app1 (B := w.heap.size + 2) rfl rfl Tryz.underlying24 info_int rfl HO2.out rfl rfl rfl (by unfold maxLen; omega) (by omega) hsz ?_; intro v9 w9 ho9 hg9 hf9)
        have HB9 := Lib.hid (below_app HB2.out (own_mono HO2.out (Nat.le_add_right _ 2)) hg9 (Nat.le_refl _))
        have HU9 := Lib.hid (OwnI.grown HUS2.out hg9 (fun g hg' e => HAP.out g e.symm hg'))
        have HA9 := Lib.hid (apt_app HAP.out (fun g hg' => HUS2.out.lt g hg') hf9)
        have hs9 := Nat.le_trans hsz hg9.size
        have HK9 := Lib.hid (HKG2.out.grown hg9 (fun e => by have := own_ge HO2.out _ e.symm; omega))
        have HOn := Lib.hid (OwnI.snoc ho9)
        clear ho9 hg9 hf9
        go_roundw
        case rel => exact ⟨k + 1, by omega, by go_num, by rw [HS.out, HW.out]; go_num, by rw [HS.out, HW.out]; exact HOn, by rw [HSU.out, HWU.out]; exact HU9, HA9, HB9, hs9, HK9⟩
        case measure => simp [intOf]; omega
    · obtain rfl : k = c.gs.length := by omega
      have HE := Lib.hid (show c.gs.take c.gs.length = c.gs from List.take_of_length_le (Nat.le_refl _))
      have HF := Lib.hid (used_fst openM T inp c.gs)
      go_wp2
      go_ret2
      exact ⟨_, _, rfl, by have := HO.out; rw [HE.out, ← HF.out] at this; exact this.mono (Nat.le_add_right _ 2), by have := HUS.out; rw [HE.out] at this; exact this.mono (Nat.le_add_right _ 2), HB.out⟩
end Go.Proofs.YtejeppjmlgfiaaaGreat
