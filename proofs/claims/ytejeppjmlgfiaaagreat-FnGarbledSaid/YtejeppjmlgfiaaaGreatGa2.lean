/- Contracts of the labels of all wires and of the rows that are used, the reference's. Conditions: the circuit, the tables and the inputs are valid. -/
import Derived.Test.YtejeppjmlgfiaaaGreatWirU
import Derived.Test.YtejeppjmlgfiaaaGreatEv
import Derived.Test.YtejeppjmlgfiaaaGreatInpL
import Derived.Test.YtejeppjmlgfiaaaGreatGa4
import Derived.Test.YtejeppjmlgfiaaaGreatGa3
namespace Go.Proofs.YtejeppjmlgfiaaaGreat
open Go.RowKit
set_option linter.unusedVariables false

/-- The call returns the labels of all wires and the rows that are used, in slices of its own. -/
def RetWU (w : World) (s : (List Int × Nat × Nat) × List Int) (e : Ending) (w' : World) : Prop := ∃ u1 u2, e = .returned (.tuple #[u1, u2]) ∧ OwnI w' w.heap.size u1 s.1.1 ∧ OwnI w' w.heap.size u2 s.2 ∧ Below w.heap.size w w'
set_option maxRecDepth 100000 in
set_option maxHeartbeats 2000000 in
theorem c_spec_gbWires {c : Cir} {T : Gb} {gv ov rv nv cv vi : Value} {inp : List Int} {w : World} (h : CirIn w gv ov c) (hc : cirB c = true) (h2 : GbIn w rv nv cv T) (ht : tabB 3 c T = true)
    (hi : Ints w vi inp) (hil : (inp.length : Int) = c.ins) (hib : ∀ x ∈ inp, 0 ≤ x ∧ x ≤ 65535) :
    Calls Tryz.prog 93 #[cirV c gv ov, gbV rv nv cv, vi] w (RetWU w (usedM openM T inp c.gs)) := by
  have hbd := cirB_bd hc
  have hgl : c.gs.length ≤ 300 := hbd.2.2.2.2.1
  have hol2 : c.outs.length ≤ 40 := hbd.2.2.2.2.2
  have hins : 0 ≤ c.ins ∧ c.ins ≤ 40 := by unfold Cir.ins; omega
  have htt := tabB_of ht
  have HT := Lib.hid htt
  have HGB := Lib.hid (cirB_gates hc)
  have HKB := Lib.hid (cirB_kinds hc)
  have HBD := Lib.hid (wires_bd (F := openM) (n := 0) (T := T) hib htt.2.2.2.1 (fun r hr => (htt.2.1 r hr).2) (fun w x y r hx hr => openM_bd hr))
  have HI := Lib.hid hi
  obtain ⟨hg, ho⟩ := h
  obtain ⟨A, cg, rfl, hlg, hmg, hrg⟩ := hg
  obtain ⟨A', co, rfl, -⟩ := ho
  obtain ⟨hr, ho, hcc⟩ := h2
  obtain ⟨A1, c1, rfl, hl1, hm1, hat⟩ := hr.form
  obtain ⟨A2, c2, rfl, hl2, hm2, hro⟩ := ho
  obtain ⟨A3, c3, rfl, -⟩ := hcc
  have HAT := Lib.hid hat
  have HRG := Lib.hid hrg
  have HRO := Lib.hid hro
  have hrl : (T.rows.length : Int) = cnt 1 c.gs := htt.1
  have hol : (T.ones.length : Int) = cnt 3 c.gs := htt.2.2.1
  have HRL := Lib.hid hrl
  have HOL := Lib.hid hol
  have hcb1 := cnt_bd 1 c.gs
  have hcb3 := cnt_bd 3 c.gs
  have hrn : T.rows.length ≤ 300 := by omega
  have hon : T.ones.length ≤ 300 := by omega
  unfold maxLen at hmg hm1 hm2
  clear hc hr hbd hat hrg htt ht hib hro hrl hol hcb1 hcb3
  unfold cirV gbV
  obtain ⟨w0, hw0⟩ : ∃ W, (w.alloc (.cells #[.int .i64 c.i0, .int .i64 c.i1, .slice A c.gs.length cg, .slice A' c.outs.length co] 26)).alloc (.cells #[.slice A1 T.rows.length c1, .slice A2 T.ones.length c2, .slice A3 T.cols.length c3] 50) = W := ⟨_, rfl⟩
  have HKC := Lib.hid ((Blk.new w 26 #[.int .i64 c.i0, .int .i64 c.i1, .slice A c.gs.length cg, .slice A' c.outs.length co]).alloc (.cells #[.slice A1 T.rows.length c1, .slice A2 T.ones.length c2, .slice A3 T.cols.length c3] 50))
  rw [hw0] at HKC
  have HKG := Lib.hid (Blk.new (w.alloc (.cells #[.int .i64 c.i0, .int .i64 c.i1, .slice A c.gs.length cg, .slice A' c.outs.length co] 26)) 50 #[.slice A1 T.rows.length c1, .slice A2 T.ones.length c2, .slice A3 T.cols.length c3])
  simp only [World.size_alloc, hw0] at HKG
  have hz0 : w.heap.size + 2 ≤ w0.heap.size := by rw [← hw0]; simp
  have HB : Hid (Below w.heap.size w w0) := by rw [← hw0]; exact ((Below.refl w.heap.size w).alloc (Nat.le_refl _) _).alloc (by simp) _
  go_enter Tryz.func93, Tryz.ntmps93
  go_wp2_with fail
  clear hw0
  refine (c_spec_l1Own (HI.out.below HB.out) (by omega)).mono ?_
  rintro e w1 ⟨u, rfl, hu, hb⟩
  have HU := Lib.hid (hu.mono hz0)
  have hz1 : w.heap.size + 2 ≤ w1.heap.size := Nat.le_trans hz0 hb.size
  replace HB := Lib.hid (below_step HB.out hb)
  replace HKC := Lib.hid (HKC.out.step hb)
  replace HKG := Lib.hid (HKG.out.step hb)
  have x2 : w1.cell? ⟨w.heap.size, 2, none⟩ = some (.slice A c.gs.length cg) := HKC.out.cell 2
  clear hb hu
  go_wp2
  clear x2
  go_loopw [8, 9, 10, 20] (fun o us n i wr => ∃ k : Nat, k ≤ c.gs.length ∧ i = .int .i64 k ∧ n = .int .i64 ((wiresM openM T inp (c.gs.take k)).2.2 : Nat) ∧ Hid (OwnI wr (w.heap.size + 2) o (wiresM openM T inp (c.gs.take k)).1) ∧ Hid (OwnI wr (w.heap.size + 2) us (usedM openM T inp (c.gs.take k)).2) ∧ Hid (Apt o us) ∧ Hid (Below w.heap.size w wr) ∧ w.heap.size + 2 ≤ wr.heap.size ∧ Hid (Blk wr (w.heap.size + 1) 50 #[.slice A1 T.rows.length c1, .slice A2 T.ones.length c2, .slice A3 T.cols.length c3])) (fun _ _ _ i _ => c.gs.length - (intOf i).toNat)
  case atStart => exact ⟨0, Nat.zero_le _, rfl, rfl, HU, Lib.hid (OwnI.nil _ _), Lib.hid (fun g _ e => by cases e), HB, hz1, HKG⟩
  case round =>
    obtain ⟨k, hk, rfl, rfl, HO, HUS, HAP, HB, hzr, HKG⟩ := hrel
    by_cases hlt : k < c.gs.length
    · obtain ⟨b, o, g, rfl, hbl, hgk, c0, c1', c2'⟩ := (HRG.out.below HB.out).gate_at hlt
      have hgb := gate_ab (gatesB_at _ _ k g HGB.out hgk)
      obtain ⟨i1, i2, i3⟩ := wires_inv (F := openM) (T := T) (inp := inp) HKB.out k (by omega)
      have HS := Lib.hid (wires_snoc (F := openM) (T := T) (inp := inp) hgk)
      have HSU := Lib.hid (used_snoc (F := openM) (T := T) (inp := inp) hgk)
      have hul := used_len (F := openM) (T := T) (inp := inp) HKB.out k (by omega)
      have huf := used_fst openM T inp (c.gs.take k)
      have hbs := HBD.out (c.gs.take k)
      have hlt1 := fun (hj : g.k = 1) => cnt_lt hgk hj
      have hlt3 := fun (hj : g.k = 3) => cnt_lt hgk hj
      generalize hs : wiresM openM T inp (c.gs.take k) = s at *
      generalize hv : usedM openM T inp (c.gs.take k) = v at *
      clear hs hv hgk
      obtain ⟨v1, ul⟩ := v
      simp only at huf hul HUS
      subst huf
      obtain ⟨gk, ga, gb⟩ := g
      obtain ⟨l, na, no⟩ := v1
      simp only at c0 c1' c2' hgb i1 i2 i3 hbs hlt1 hlt3 HO
      have hnu : ul.length = na := by omega
      subst hnu
      have HUL := Lib.hid hul
      clear hul
      obtain ⟨Ax, cx, rfl, hlx, hmx, -⟩ := own_form HUS.out
      unfold maxLen at hmx
      obtain ⟨Au, cu, rfl, hlu, hmu, hru⟩ := own_form HO.out
      unfold maxLen at hmu
      have hll : (l.length : Int) = c.ins + k := by omega
      have hl340 : l.length ≤ 340 := by omega
      have HLL := Lib.hid hll
      have HBS := Lib.hid hbs
      have HRU := Lib.hid hru
      obtain ⟨wb, hwb⟩ : ∃ W, wr.alloc (.cells #[.int .i64 gk, .int .i64 ga, .int .i64 gb] 117) = W := ⟨_, rfl⟩
      have hbb : Below wr.heap.size wr wb := by rw [← hwb]; exact (Below.refl _ _).alloc (Nat.le_refl _) _
      have HBX : Hid (Blk wb wr.heap.size 117 #[.int .i64 gk, .int .i64 ga, .int .i64 gb]) := by rw [← hwb]; exact Blk.new _ _ _
      have y0 : wb.cell? ⟨wr.heap.size, 0, none⟩ = some (.int .i64 gk) := HBX.out.cell 0
      have y1 : wb.cell? ⟨wr.heap.size, 1, none⟩ = some (.int .i64 ga) := HBX.out.cell 1
      have y2 : wb.cell? ⟨wr.heap.size, 2, none⟩ = some (.int .i64 gb) := HBX.out.cell 2
      have HBB := Lib.hid hbb
      have HB2 := Lib.hid (below_step HB.out hbb)
      have HKG2 := Lib.hid (HKG.out.step hbb)
      have HO2 := Lib.hid (HO.out.below hbb)
      have HUS2 := Lib.hid (HUS.out.below hbb)
      have hsz : w.heap.size + 2 ≤ wb.heap.size := Nat.le_trans hzr HBB.out.size
      clear hbb hll hbs hru HB HKG HUS hlu hmu hbl
      have hkk : gk = 0 ∨ gk = 1 ∨ gk = 2 ∨ gk = 3 := by omega
      rcases hkk with rfl | rfl | rfl | rfl
      · -- exclusive-or
        have hab := hgb.2.1 (Or.inl rfl)
        obtain ⟨ja, rfl, hja, hea⟩ := elt_at (l := l) hab.1 (by have := HLL.out; omega)
        obtain ⟨jb, rfl, hjb, heb⟩ := elt_at (l := l) hab.2.2.1 (by have := HLL.out; omega)
        obtain ⟨g0, c9, e9, _, hg0, hcl⟩ := own_at HO.out (by intro e; rw [e] at hja; simp at hja)
        injection e9 with e91 e92 e93
        subst e91
        have ba := elt_bd (k := (ja : Int)) HBS.out
        have bb := elt_bd (k := (jb : Int)) HBS.out
        generalize hxa : elt l (ja : Int) = xa at *
        generalize hxb : elt l (jb : Int) = xb at *
        have hca := (HBB.out.cell (p := ⟨g0, ja, none⟩) hg0).trans (hcl ja xa hea)
        have hcb := (HBB.out.cell (p := ⟨g0, jb, none⟩) hg0).trans (hcl jb xb heb)
        have hxor := bits_xor ba.1 bb.1 (by omega) (by omega)
        have HW := Lib.hid (show wireStep openM T (l, ul.length, no) ⟨0, (ja : Int), (jb : Int)⟩ = (l ++ [xorI xa xb], ul.length, no) by unfold wireStep; simp only [if_true]; rw [hxa, hxb])
        have HWU := Lib.hid (show (uStep openM T ((l, ul.length, no), ul) ⟨0, (ja : Int), (jb : Int)⟩).2 = ul by unfold uStep; simp)
        have q1 := belowCell y1
        have q2 := belowCell y2
        have q3 := belowCell hca
        have q4 := belowCell hcb
        clear hgb hlt1 hlt3 hea heb hab i1 i2 i3 hxa hxb hcl e92 e93
        have hja0 : (0 : Int) ≤ (ja : Int) := Int.natCast_nonneg _
        have hja1 : (ja : Int) < (l.length : Int) := by omega
        have hjb0 : (0 : Int) ≤ (jb : Int) := Int.natCast_nonneg _
        have hjb1 : (jb : Int) < (l.length : Int) := by omega
        go_wp2_with fail
        go_region_held3 (fun w' => w'.cell? ⟨wr.heap.size, 1, none⟩ = some (.int .i64 (ja : Int)) ∧ w'.cell? ⟨wr.heap.size, 2, none⟩ = some (.int .i64 (jb : Int)) ∧ w'.cell? ⟨g0, ja, none⟩ = some (.int .i64 xa) ∧ w'.cell? ⟨g0, jb, none⟩ = some (.int .i64 xb))
          (first | exact KP.out | exact ⟨y1, y2, hca, hcb⟩ | exact ⟨q1 _ (((Below.refl _ _).alloc (Nat.le_refl _) _).drew), q2 _ (((Below.refl _ _).alloc (Nat.le_refl _) _).drew), q3 _ (((Below.refl _ _).alloc (Nat.le_refl _) _).drew), q4 _ (((Below.refl _ _).alloc (Nat.le_refl _) _).drew)⟩)
          ((refine step_app1K (B := w.heap.size + 2) (by rfl) (by rfl) Tryz.underlying24 info_int rfl ((World.ownsRow.alloc HO2.out _).drew) (cell_new wb _ _) (by rfl) (by rfl) rfl (by unfold maxLen; omega) (by omega) (by simp; omega) ?_; intro v' w9 ho hg hfr hkp; have KAW := Lib.hid (((Below.refl wb.heap.size wb).alloc (Nat.le_refl _) (.cells #[.int .i64 (xorI xa xb)] 3)).drew); have KP := Lib.hid (And.intro (hg.cell (q1 _ KAW.out) (fun e => by simp [Value.ownBlock] at e; omega)) (And.intro (hg.cell (q2 _ KAW.out) (fun e => by simp [Value.ownBlock] at e; omega)) (And.intro ((hkp g0 ja rfl hja).trans (q3 _ KAW.out)) ((hkp g0 jb rfl hjb).trans (q4 _ KAW.out)))))))
        have HOa := Lib.hid ((World.ownsRow.alloc HO2.out (.cells #[.int .i64 (xorI xa xb)] 3)).drew)
        have HBa := Lib.hid ((HB2.out.alloc HB2.out.size (.cells #[.int .i64 (xorI xa xb)] 3)).drew)
        have HBn := Lib.hid (below_app HBa.out (own_mono HOa.out (Nat.le_add_right _ 2)) hg (Nat.le_refl _))
        have HKn := Lib.hid (((HKG2.out.alloc (.cells #[.int .i64 (xorI xa xb)] 3)).drew).grown hg (fun e => by have := own_ge HOa.out _ e.symm; omega))
        have HUn := Lib.hid (OwnI.grown (w := (wb.alloc (.cells #[.int .i64 (xorI xa xb)] 3)).drew) (World.ownsRow.alloc HUS2.out (.cells #[.int .i64 (xorI xa xb)] 3)) hg (fun g hg' e => HAP.out g e.symm hg'))
        have HAn := Lib.hid (apt_app (wr := (wb.alloc (.cells #[.int .i64 (xorI xa xb)] 3)).drew) HAP.out (fun g hg' => Nat.lt_of_lt_of_le (HUS2.out.lt g hg') (by simp)) hfr)
        have hzn : w.heap.size + 2 ≤ w9.heap.size := Nat.le_trans (Nat.le_trans hsz (by simp)) hg.size
        clear hxor q1 q2 q3 q4 KP KAW hkp
        go_wp2_with fail
        go_roundw
        case rel => exact ⟨k + 1, by omega, by go_num, by rw [HS.out, HW.out], by rw [HS.out, HW.out]; exact Lib.hid (OwnI.snoc ho), by rw [HSU.out, HWU.out]; exact HUn, HAn, HBn, hzn, HKn⟩
        case measure => simp [intOf]; omega
      · -- and
        have hab := hgb.2.1 (Or.inr rfl)
        obtain ⟨ja, rfl, hja, hea⟩ := elt_at (l := l) hab.1 (by have := HLL.out; omega)
        obtain ⟨jb, rfl, hjb, heb⟩ := elt_at (l := l) hab.2.2.1 (by have := HLL.out; omega)
        obtain ⟨g0, c9, e9, _, hg0, hcl⟩ := own_at HO.out (by intro e; rw [e] at hja; simp at hja)
        injection e9 with e91 e92 e93
        subst e91
        have ba := elt_bd (k := (ja : Int)) HBS.out
        have bb := elt_bd (k := (jb : Int)) HBS.out
        generalize hxa : elt l (ja : Int) = xa at *
        generalize hxb : elt l (jb : Int) = xb at *
        have hca := (HBB.out.cell (p := ⟨g0, ja, none⟩) hg0).trans (hcl ja xa hea)
        have hcb := (HBB.out.cell (p := ⟨g0, jb, none⟩) hg0).trans (hcl jb xb heb)
        have hna : ul.length < T.rows.length := by have h1 := hlt1 rfl; have h2 := HRL.out; omega
        obtain ⟨br, or', Ar, r, cr, rfl, hbr, hrr, hcr, hir⟩ := HAT.out ul.length hna
        have hrt := HT.out.2.1 r (List.mem_of_getElem? hrr)
        have HRT := Lib.hid hrt
        have HIR := Lib.hid hir
        obtain ⟨N, hN⟩ : ∃ N, xa % 2 * 2 + xb % 2 = N := ⟨_, rfl⟩
        have hNb : 0 ≤ N ∧ N ≤ 3 := by omega
        have HW := Lib.hid (show wireStep openM T (l, ul.length, no) ⟨1, (ja : Int), (jb : Int)⟩ = (l ++ [openM (l.length : Int) xa xb r], ul.length + 1, no) by unfold wireStep; simp only [Int.reduceEq, if_false]; rw [hxa, hxb, getD_at hrr])
        have HWU := Lib.hid (show (uStep openM T ((l, ul.length, no), ul) ⟨1, (ja : Int), (jb : Int)⟩).2 = ul ++ [N] by unfold uStep; simp only [if_true]; rw [hxa, hxb, hN])
        have HOM := Lib.hid (show openM (l.length : Int) xa xb r = if 0 < N then xorI (digM [(l.length : Int), 14, xa, xb]) (elt r (N - 1)) else digM [(l.length : Int), 14, xa, xb] by
          unfold openM; rw [show 2 * (xa % 2) + xb % 2 = N by omega])
        have hd0 := digM_bd [(l.length : Int), 14, xa, xb]
        have HC0 := Lib.hid (fun W => c_spec_gbCipher (w := W) (n := (l.length : Int)) (x := xa) (y := xb) (by omega) (by omega) (by omega))
        generalize digM [(l.length : Int), 14, xa, xb] = d0 at *
        have g1 : wb.cell? ⟨w.heap.size + 1, 0, none⟩ = some (.slice (some ⟨br, or', none⟩) T.rows.length c1) := HKG2.out.cell 0
        have hcr2 := (HB2.out.cell (p := ⟨br, or' + ul.length, none⟩) hbr).trans hcr
        have q1 := belowCell y1
        have q2 := belowCell y2
        have q3 := belowCell hca
        have q4 := belowCell hcb
        have G1 := Lib.hid (belowCell g1)
        have G2 := Lib.hid (belowCell hcr2)
        have ta := tmod2 ba.1
        have tb := tmod2 bb.1
        have ew1 : IntKind.i64.wrap (xa % 2 * 2) = xa % 2 * 2 := IntWalk.i64_in _ (by omega)
        have ew2 : IntKind.i64.wrap N = N := IntWalk.i64_in _ (by omega)
        have hja0 : (0 : Int) ≤ (ja : Int) := Int.natCast_nonneg _
        have hja1 : (ja : Int) < (l.length : Int) := by omega
        have hjb0 : (0 : Int) ≤ (jb : Int) := Int.natCast_nonneg _
        have hjb1 : (jb : Int) < (l.length : Int) := by omega
        have hna0 : (0 : Int) ≤ (ul.length : Int) := Int.natCast_nonneg _
        have hna1 : (ul.length : Int) < (T.rows.length : Int) := by omega
        clear hgb hlt1 hlt3 hea heb hab i1 i2 i3 hxa hxb hcl e92 e93 hrr hrt hir hcr y1 y2 hca hcb g1 hcr2
        go_wp2_with fail
        go_region_held3 (fun w' => Below wb.heap.size wb w') (first | (exact (Below.refl _ _).drew) | assumption) (fail)
        go_wp2_with fail
        go_region_held3 (fun w' => Below wb.heap.size wb w')
          (first | assumption | (refine below_step ?_ HD.out; assumption) | (exact (Below.refl _ _).drew.drew))
          (first
            | (go_at_call 148; refine (HC0.out _).mono ?_; rintro e wz ⟨rfl, hb⟩; have HD := Lib.hid hb))
        have hE : Below wb.heap.size wb wz := by assumption
        have HEE := Lib.hid hE
        have HB3 := Lib.hid (below_step HB2.out hE)
        have HKG3 := Lib.hid (HKG2.out.step hE)
        have HUS3 := Lib.hid (HUS2.out.below hE)
        have HO3 := Lib.hid (HO2.out.below hE)
        have hsz3 := Nat.le_trans hsz hE.size
        have HRI := Lib.hid (HIR.out.below HB3.out)
        clear hE q1 q2 q3 q4 HC0
        by_cases hNp : 0 < N
        · obtain ⟨jr, hjr, hjl, hje⟩ := elt_at (l := r) (k := N - 1) (by omega) (by have := HRT.out.1; omega)
          have hrb := elt_bd (k := N - 1) HRT.out.2
          have hrd9 : Rd wz Ar (r.map (Value.int .i64)) := by
            obtain ⟨A9, k9, e9, _, _, h3⟩ := HRI.out
            injection e9 with e1; subst e1; exact h3
          obtain ⟨b9, o9, rx, rfl, hb9, hrx, hc9⟩ := hrd9.int_at hjl
          have hrxe : elt r (N - 1) = rx := by have := hje.symm.trans hrx; injection this
          rw [hrxe] at hrb
          have HV := Lib.hid (show openM (l.length : Int) xa xb r = xorI d0 rx by rw [HOM.out, if_pos hNp, hrxe])
          have hxor := bits_xor hd0.1 hrb.1 (by omega) (by omega)
          have z1 := G1.out _ HEE.out
          have z2 := G2.out _ HEE.out
          have hjr0 : (0 : Int) ≤ (jr : Int) := Int.natCast_nonneg _
          have hjr1 : (jr : Int) < (r.length : Int) := by omega
          have hNg : N > 0 := hNp
          clear hje hrx hrxe HOM
          go_wp2_with (at_builtin; first
            | (refine wp_app1 (B := w.heap.size + 2) rfl rfl Tryz.underlying24 info_int rfl HUS3.out rfl rfl rfl (by unfold maxLen; omega) (by omega) hsz3 ?_; intro v8 w8 ho8 hg8 hf8; have HB8 := Lib.hid (below_app HB3.out (own_mono HUS3.out (Nat.le_add_right _ 2)) hg8 (Nat.le_refl _)); have HU8 := Lib.hid (OwnI.snoc ho8); have HO8 := Lib.hid (OwnI.grown HO3.out hg8 (fun g hg' e => HAP.out g hg' e.symm)); have HA8 := Lib.hid (apt_app (Apt.symm HAP.out) (fun g hg' => HO3.out.lt g hg') hf8).symm; have hs8 := Nat.le_trans hsz3 hg8.size; have HK8 := Lib.hid (HKG3.out.grown hg8 (fun e => by have := own_ge HUS3.out _ e.symm; omega)); clear ho8 hg8 hf8)
            | (refine wp_app1 (B := w.heap.size + 2) rfl rfl Tryz.underlying24 info_int rfl HO8.out rfl rfl rfl (by unfold maxLen; omega) (by omega) hs8 ?_; intro v9 w9 ho9 hg9 hf9))
          have HB9 := Lib.hid (below_app HB8.out (own_mono HO8.out (Nat.le_add_right _ 2)) hg9 (Nat.le_refl _))
          have HU9 := Lib.hid (OwnI.grown HU8.out hg9 (fun g hg' e => HA8.out g e.symm hg'))
          have HA9 := Lib.hid (apt_app HA8.out (fun g hg' => HU8.out.lt g hg') hf9)
          have hs9 := Nat.le_trans hs8 hg9.size
          have HK9 := Lib.hid (HK8.out.grown hg9 (fun e => by have := own_ge HO8.out _ e.symm; omega))
          have HOn := Lib.hid (OwnI.snoc ho9)
          clear ho9 hg9 hf9
          go_roundw
          case rel => exact ⟨k + 1, by omega, by go_num, by rw [HS.out, HW.out], by rw [HS.out, HW.out, HV.out]; exact HOn, by rw [HSU.out, HWU.out]; exact HU9, HA9, HB9, hs9, HK9⟩
          case measure => simp [intOf]; omega
        · have HV := Lib.hid (show openM (l.length : Int) xa xb r = d0 by rw [HOM.out, if_neg hNp])
          have hNg : ¬ N > 0 := hNp
          clear HOM
          go_wp2_with (at_builtin; first
            | (refine wp_app1 (B := w.heap.size + 2) rfl rfl Tryz.underlying24 info_int rfl HUS3.out rfl rfl rfl (by unfold maxLen; omega) (by omega) hsz3 ?_; intro v8 w8 ho8 hg8 hf8; have HB8 := Lib.hid (below_app HB3.out (own_mono HUS3.out (Nat.le_add_right _ 2)) hg8 (Nat.le_refl _)); have HU8 := Lib.hid (OwnI.snoc ho8); have HO8 := Lib.hid (OwnI.grown HO3.out hg8 (fun g hg' e => HAP.out g hg' e.symm)); have HA8 := Lib.hid (apt_app (Apt.symm HAP.out) (fun g hg' => HO3.out.lt g hg') hf8).symm; have hs8 := Nat.le_trans hsz3 hg8.size; have HK8 := Lib.hid (HKG3.out.grown hg8 (fun e => by have := own_ge HUS3.out _ e.symm; omega)); clear ho8 hg8 hf8)
            | (refine wp_app1 (B := w.heap.size + 2) rfl rfl Tryz.underlying24 info_int rfl HO8.out rfl rfl rfl (by unfold maxLen; omega) (by omega) hs8 ?_; intro v9 w9 ho9 hg9 hf9))
          have HB9 := Lib.hid (below_app HB8.out (own_mono HO8.out (Nat.le_add_right _ 2)) hg9 (Nat.le_refl _))
          have HU9 := Lib.hid (OwnI.grown HU8.out hg9 (fun g hg' e => HA8.out g e.symm hg'))
          have HA9 := Lib.hid (apt_app HA8.out (fun g hg' => HU8.out.lt g hg') hf9)
          have hs9 := Nat.le_trans hs8 hg9.size
          have HK9 := Lib.hid (HK8.out.grown hg9 (fun e => by have := own_ge HO8.out _ e.symm; omega))
          have HOn := Lib.hid (OwnI.snoc ho9)
          clear ho9 hg9 hf9
          go_roundw
          case rel => exact ⟨k + 1, by omega, by go_num, by rw [HS.out, HW.out], by rw [HS.out, HW.out, HV.out]; exact HOn, by rw [HSU.out, HWU.out]; exact HU9, HA9, HB9, hs9, HK9⟩
          case measure => simp [intOf]; omega
      · -- not
        have hab := hgb.2.2 rfl
        obtain ⟨ja, rfl, hja, hea⟩ := elt_at (l := l) hab.1 (by have := HLL.out; omega)
        obtain ⟨g0, c9, e9, _, hg0, hcl⟩ := own_at HO.out (by intro e; rw [e] at hja; simp at hja)
        injection e9 with e91 e92 e93
        subst e91
        generalize hxa : elt l (ja : Int) = xa at *
        have hca := (HBB.out.cell (p := ⟨g0, ja, none⟩) hg0).trans (hcl ja xa hea)
        have HW := Lib.hid (show wireStep openM T (l, ul.length, no) ⟨2, (ja : Int), gb⟩ = (l ++ [xa], ul.length, no) by unfold wireStep; simp only [Int.reduceEq, if_false, if_true]; rw [hxa])
        have HWU := Lib.hid (show (uStep openM T ((l, ul.length, no), ul) ⟨2, (ja : Int), gb⟩).2 = ul by unfold uStep; simp)
        clear hgb hlt1 hlt3 hea hxa hab i1 i2 i3 hcl e92 e93
        have hja0 : (0 : Int) ≤ (ja : Int) := Int.natCast_nonneg _
        have hja1 : (ja : Int) < (l.length : Int) := by omega
        go_wp2_with (at_builtin; refine wp_app1 (B := w.heap.size + 2) rfl rfl Tryz.underlying24 info_int rfl HO2.out rfl rfl rfl (by unfold maxLen; omega) (by omega) hsz ?_; intro v9 w9 ho9 hg9 hf9)
        have HB9 := Lib.hid (below_app HB2.out (own_mono HO2.out (Nat.le_add_right _ 2)) hg9 (Nat.le_refl _))
        have HU9 := Lib.hid (OwnI.grown HUS2.out hg9 (fun g hg' e => HAP.out g e.symm hg'))
        have HA9 := Lib.hid (apt_app HAP.out (fun g hg' => HUS2.out.lt g hg') hf9)
        have hs9 := Nat.le_trans hsz hg9.size
        have HK9 := Lib.hid (HKG2.out.grown hg9 (fun e => by have := own_ge HO2.out _ e.symm; omega))
        have HOn := Lib.hid (OwnI.snoc ho9)
        clear ho9 hg9 hf9
        go_roundw
        case rel => exact ⟨k + 1, by omega, by go_num, by rw [HS.out, HW.out], by rw [HS.out, HW.out]; exact HOn, by rw [HSU.out, HWU.out]; exact HU9, HA9, HB9, hs9, HK9⟩
        case measure => simp [intOf]; omega
      · -- one
        have hno : no < T.ones.length := by have h1 := hlt3 rfl; have h2 := HOL.out; omega
        obtain ⟨br, or', xo, rfl, hbr, hxo, hcr⟩ := HRO.out.int_at hno
        have HW := Lib.hid (show wireStep openM T (l, ul.length, no) ⟨3, ga, gb⟩ = (l ++ [xo], ul.length, no + 1) by unfold wireStep; simp only [Int.reduceEq, if_false, if_true]; rw [getD_at hxo])
        have HWU := Lib.hid (show (uStep openM T ((l, ul.length, no), ul) ⟨3, ga, gb⟩).2 = ul by unfold uStep; simp)
        have g1 : wb.cell? ⟨w.heap.size + 1, 1, none⟩ = some (.slice (some ⟨br, or', none⟩) T.ones.length c2) := HKG2.out.cell 1
        have hcr2 := (HB2.out.cell (p := ⟨br, or' + no, none⟩) hbr).trans hcr
        clear hgb hlt1 hlt3 i1 i2 i3 hxo hcr
        have hno0 : (0 : Int) ≤ (no : Int) := Int.natCast_nonneg _
        have hno1 : (no : Int) < (T.ones.length : Int) := by omega
        go_wp2_with (at_builtin; refine wp_app1 (B := w.heap.size + 2) rfl rfl Tryz.underlying24 info_int rfl HO2.out rfl rfl rfl (by unfold maxLen; omega) (by omega) hsz ?_; intro v9 w9 ho9 hg9 hf9)
        have HB9 := Lib.hid (below_app HB2.out (own_mono HO2.out (Nat.le_add_right _ 2)) hg9 (Nat.le_refl _))
        have HU9 := Lib.hid (OwnI.grown HUS2.out hg9 (fun g hg' e => HAP.out g e.symm hg'))
        have HA9 := Lib.hid (apt_app HAP.out (fun g hg' => HUS2.out.lt g hg') hf9)
        have hs9 := Nat.le_trans hsz hg9.size
        have HK9 := Lib.hid (HKG2.out.grown hg9 (fun e => by have := own_ge HO2.out _ e.symm; omega))
        have HOn := Lib.hid (OwnI.snoc ho9)
        clear ho9 hg9 hf9
        go_roundw
        case rel => exact ⟨k + 1, by omega, by go_num, by rw [HS.out, HW.out]; go_num, by rw [HS.out, HW.out]; exact HOn, by rw [HSU.out, HWU.out]; exact HU9, HA9, HB9, hs9, HK9⟩
        case measure => simp [intOf]; omega
    · obtain rfl : k = c.gs.length := by omega
      have HE := Lib.hid (show c.gs.take c.gs.length = c.gs from List.take_of_length_le (Nat.le_refl _))
      have HF := Lib.hid (used_fst openM T inp c.gs)
      go_wp2
      go_ret2
      exact ⟨_, _, rfl, by have := HO.out; rw [HE.out, ← HF.out] at this; exact this.mono (Nat.le_add_right _ 2), by have := HUS.out; rw [HE.out] at this; exact this.mono (Nat.le_add_right _ 2), HB.out⟩
end Go.Proofs.YtejeppjmlgfiaaaGreat

/- Contracts of whole runs of garbled and halved circuits, the reference's. Conditions: the lists are short. -/
namespace Go.Proofs.YtejeppjmlgfiaaaGreat
open Go.RowKit
set_option linter.unusedVariables false

set_option maxRecDepth 100000 in
set_option maxHeartbeats 4000000 in
theorem c_spec_RunGarbled {c : Cir} {gv ov va vb : Value} {key : Int} {a b : List Int} {w : World} (h : CirIn w gv ov c) (ha : Ints w va a) (hb : Ints w vb b) (hla : a.length ≤ 1048576) (hlb : b.length ≤ 1048576) :
    Calls Tryz.prog 25 #[cirV c gv ov, .int .i64 key, va, vb] w (RetIB w (runM openM gbZ gbR c key a b)) := by
  have H := Lib.hid h
  have HVA := Lib.hid ha
  have HVB := Lib.hid hb
  obtain ⟨hg, hoo⟩ := h
  obtain ⟨A, cg, rfl, -⟩ := hg
  obtain ⟨A', co, rfl, -⟩ := hoo
  obtain ⟨Aa, ca, rfl, -⟩ := ha
  obtain ⟨Ab, cb, rfl, -⟩ := hb
  unfold cirV
  obtain ⟨w0, hw0⟩ : ∃ W, w.alloc (.cells #[.int .i64 c.i0, .int .i64 c.i1, .slice A c.gs.length cg, .slice A' c.outs.length co] 26) = W := ⟨_, rfl⟩
  have HKC : Hid (Blk w0 w.heap.size 26 #[.int .i64 c.i0, .int .i64 c.i1, .slice A c.gs.length cg, .slice A' c.outs.length co]) := by rw [← hw0]; exact Blk.new _ _ _
  have HB : Hid (Below w.heap.size w w0) := by rw [← hw0]; exact (Below.refl _ _).alloc (Nat.le_refl _) _
  have x0 : w0.cell? ⟨w.heap.size, 0, none⟩ = some (.int .i64 c.i0) := HKC.out.cell 0
  have x1 : w0.cell? ⟨w.heap.size, 1, none⟩ = some (.int .i64 c.i1) := HKC.out.cell 1
  have x2 : w0.cell? ⟨w.heap.size, 2, none⟩ = some (.slice A c.gs.length cg) := HKC.out.cell 2
  have x3 : w0.cell? ⟨w.heap.size, 3, none⟩ = some (.slice A' c.outs.length co) := HKC.out.cell 3
  go_enter Tryz.func25, Tryz.ntmps25
  go_wp2_with fail
  clear hw0 x0 x1 x2 x3
  refine (c_spec_ciAsked (H.out.below HB.out) (HVA.out.below HB.out) (HVB.out.below HB.out) hla hlb).mono ?_
  rintro e w1 ⟨rfl, hb1⟩
  have HB1 := Lib.hid (below_step HB.out hb1)
  replace HKC := Lib.hid (HKC.out.step hb1)
  clear hb1
  rcases hq : askedB c a b with _ | _
  · have HM := Lib.hid (show runM openM gbZ gbR c key a b = none by unfold runM; rw [hq, Bool.false_and]; rfl)
    go_wp2
    go_ret2
    rw [HM.out]
    exact RetIB.no_below HB1.out
  have HQ := Lib.hid hq
  clear hq
  rcases hk : inB key 0 1000000000 with _ | _
  · have HM := Lib.hid (show runM openM gbZ gbR c key a b = none by unfold runM; rw [hk, Bool.and_false]; rfl)
    go_wp2_with (go_at_call 91; refine (c_spec_shKey).mono ?_; rintro e w' ⟨rfl, rfl⟩)
    go_ret2
    rw [HM.out]
    exact RetIB.no_below HB1.out
  have HM := Lib.hid (show runM openM gbZ gbR c key a b = some (xorsM (coloursM (outsM openM gbZ gbR c key a b)) (tabM (gbZ (offM key)) (gbR (offM key)) key (offM key) c).cols) by unfold runM; rw [HQ.out, hk]; rfl)
  have hq := HQ.out
  have HC := Lib.hid (askedB_of hq).1
  have ho := off_lab key
  have hkb := inB_bd hk
  have ht := gb_tab_ok (key := key) HC.out ho
  have HT := Lib.hid ht
  have HIN := Lib.hid (asked_in hq)
  have HIL := Lib.hid (run_inl (key := key) hq)
  have HIB := Lib.hid (lbIn_bd (key := key) ho (asked_in hq).2)
  have HOB := Lib.hid (run_bd (F := openM) ht hq openM_ok)
  have HOD := Lib.hid (show outsM openM gbZ gbR c key a b = pickM (wiresM openM (tabM (gbZ (offM key)) (gbR (offM key)) key (offM key) c) (lbInM key (offM key) (a ++ b)) c.gs).1 c.outs from rfl)
  have HMK := Lib.hid (fun (W : World) (hW : Below w.heap.size w W) => c_spec_gbMake (H.out.below hW) HC.out hkb ho)
  unfold cirV at HMK
  have hcb := cirB_bd HC.out
  have hab : (a ++ b).length ≤ 40 := by have := HIN.out.1; unfold Cir.ins at this; omega
  have hol : c.outs.length ≤ 40 := hcb.2.2.2.2.2
  have hcl : (tabM (gbZ (offM key)) (gbR (offM key)) key (offM key) c).cols.length = c.outs.length := by have := (tabB_of ht).2.2.2.2.1; omega
  have HCL := Lib.hid hcl
  clear ht hq hcb hcl
  generalize tabM (gbZ (offM key)) (gbR (offM key)) key (offM key) c = T at *
  go_wp2_with (go_at_call 91; refine (c_spec_shKey).mono ?_; rintro e w' ⟨rfl, rfl⟩)
  refine (c_spec_lbFrom (by omega)).mono ?_
  rintro e w2 ⟨rfl, hb2⟩
  generalize offM key = off at *
  have HB2 := Lib.hid (below_step HB1.out hb2)
  replace HKC := Lib.hid (HKC.out.step hb2)
  have x0 : w2.cell? ⟨w.heap.size, 0, none⟩ = some (.int .i64 c.i0) := HKC.out.cell 0
  have x1 : w2.cell? ⟨w.heap.size, 1, none⟩ = some (.int .i64 c.i1) := HKC.out.cell 1
  have x2 : w2.cell? ⟨w.heap.size, 2, none⟩ = some (.slice A c.gs.length cg) := HKC.out.cell 2
  have x3 : w2.cell? ⟨w.heap.size, 3, none⟩ = some (.slice A' c.outs.length co) := HKC.out.cell 3
  clear hb2
  go_wp2_with fail
  clear x0 x1 x2 x3
  refine (HMK.out _ HB2.out).mono ?_
  rintro e w3 ⟨rv, nv, cv, vs, rfl, hz, hb3⟩
  obtain ⟨Ar, cr, rfl, -⟩ := hz.rows.rowsIn.form
  obtain ⟨Ao, co', rfl, -⟩ := hz.ones.ints
  obtain ⟨Ac, cc, rfl, -⟩ := hz.cols.ints
  have HZ := Lib.hid hz
  have HB3 := Lib.hid (below_step HB2.out hb3)
  replace HKC := Lib.hid (HKC.out.step hb3)
  unfold gbV
  clear hz hb3
  go_wp2_with fail
  obtain ⟨W4, hW4⟩ : ∃ W, w3.alloc (.cells #[.slice Ar T.rows.length cr, .slice Ao T.ones.length co', .slice Ac T.cols.length cc] 50) = W := ⟨_, rfl⟩
  rw [hW4]
  have HKG : Hid (Blk W4 w3.heap.size 50 #[.slice Ar T.rows.length cr, .slice Ao T.ones.length co', .slice Ac T.cols.length cc]) := by rw [← hW4]; exact Blk.new _ _ _
  have HB4 : Hid (Below w.heap.size w W4) := by rw [← hW4]; exact Lib.hid (HB3.out.alloc HB3.out.size _)
  have HG4 : Hid (GbIn W4 (.slice Ar T.rows.length cr) (.slice Ao T.ones.length co') (.slice Ac T.cols.length cc) T) := by rw [← hW4]; exact Lib.hid (HZ.out.gbIn.alloc _)
  replace HKC : Hid (Blk W4 w.heap.size 26 #[.int .i64 c.i0, .int .i64 c.i1, .slice A c.gs.length cg, .slice A' c.outs.length co]) := by rw [← hW4]; exact Lib.hid (HKC.out.alloc _)
  clear hW4
  have q0 : ∀ W, Below W4.heap.size W4 W → W.cell? ⟨w.heap.size, 0, none⟩ = some (.int .i64 c.i0) := belowCell (HKC.out.cell 0)
  have q1 : ∀ W, Below W4.heap.size W4 W → W.cell? ⟨w.heap.size, 1, none⟩ = some (.int .i64 c.i1) := belowCell (HKC.out.cell 1)
  have q2 : ∀ W, Below W4.heap.size W4 W → W.cell? ⟨w.heap.size, 2, none⟩ = some (.slice A c.gs.length cg) := belowCell (HKC.out.cell 2)
  have q3 : ∀ W, Below W4.heap.size W4 W → W.cell? ⟨w.heap.size, 3, none⟩ = some (.slice A' c.outs.length co) := belowCell (HKC.out.cell 3)
  have r0 : ∀ W, Below W4.heap.size W4 W → W.cell? ⟨w3.heap.size, 0, none⟩ = some (.slice Ar T.rows.length cr) := belowCell (HKG.out.cell 0)
  have r1 : ∀ W, Below W4.heap.size W4 W → W.cell? ⟨w3.heap.size, 1, none⟩ = some (.slice Ao T.ones.length co') := belowCell (HKG.out.cell 1)
  have r2 : ∀ W, Below W4.heap.size W4 W → W.cell? ⟨w3.heap.size, 2, none⟩ = some (.slice Ac T.cols.length cc) := belowCell (HKG.out.cell 2)
  have Q := Lib.hid (And.intro q3 r2)
  go_region_held3 (fun W => Below W4.heap.size W4 W)
    (first | (refine below_step ?_ HD.out; assumption) | (exact (Below.refl _ _).drew))
    (first
      | (go_at_call 66; refine (c_spec_ciJoin (HVA.out.below (below_step HB4.out (Below.refl _ _).drew)) (HVB.out.below (below_step HB4.out (Below.refl _ _).drew)) hla hlb).mono ?_; rintro e wa ⟨u, rfl, hu, hb⟩; have HU := Lib.hid hu.ints; have HF := Lib.hid (show Below W4.heap.size W4 wa from below_step (Below.refl _ _).drew hb); have HD := Lib.hid hb)
      | (go_at_call 65; refine (c_spec_lbInputs HU.out (by omega) HIN.out.2 hkb ho).mono ?_; rintro e wb ⟨u2, rfl, hu, hb⟩; have HU2 := Lib.hid hu.ints; have HF2 := Lib.hid (show Below W4.heap.size W4 wb from below_step HF.out hb); have HD := Lib.hid hb)
      | (go_at_call 93; refine (c_spec_gbWires (H.out.below (below_step HB4.out HF2.out)) HC.out (HG4.out.below HF2.out) HT.out HU2.out HIL.out HIB.out).mono ?_; rintro e wc ⟨u3, u4, rfl, hu, -, hb⟩; have HU3 := Lib.hid (show Ints wc u3 (wiresM openM T (lbInM key off (a ++ b)) c.gs).1 by have := hu.ints; rw [used_fst] at this; exact this); have HF3 := Lib.hid (show Below W4.heap.size W4 wc from below_step HF2.out hb); have HD := Lib.hid hb))
  have hE : Below W4.heap.size W4 wc := by assumption
  clear q0 q1 q2 r0 r1 HU HU2 HF HF2 HD
  have hF3 := HF3.out
  have HB5 := Lib.hid (below_step HB4.out hE)
  obtain ⟨Au, cu, rfl, -⟩ := HU3.out
  go_wp2_with fail
  go_region_held3 (fun W => Below W4.heap.size W4 W)
    (first | (refine below_step ?_ HD.out; assumption) | (exact hF3.drew))
    (first
      | (go_at_call 94; refine (c_spec_ciPick (HU3.out.below (Below.refl _ _).drew) (H.out.below (below_step HB5.out (Below.refl _ _).drew)).outs (Nat.le_trans (wires_len HC.out HIL.out) (by omega)) (by omega) (outs_bd HC.out HIL.out)).mono ?_; rintro e wd ⟨u5, rfl, hu, hb⟩; have HU5 := Lib.hid (show Ints wd u5 (outsM openM gbZ gbR c key a b) by rw [HOD.out]; exact hu.ints); have HF5 := Lib.hid (show Below W4.heap.size W4 wd from below_step hF3.drew hb); have HD := Lib.hid hb)
      | (go_at_call 68; refine (c_spec_lbColours HU5.out (by unfold outsM; rw [pickM_length]; omega) (fun x hx => by have := HOB.out x hx; omega)).mono ?_; rintro e we ⟨u6, rfl, hu, hb⟩; have HU6 := Lib.hid hu.ints; have HF6 := Lib.hid (show Below W4.heap.size W4 we from below_step HF5.out hb); have HD := Lib.hid hb)
      | (go_at_call 67; refine (c_spec_btXor HU6.out (HG4.out.below HF6.out).cols (by rw [coloursM_length]; unfold outsM; rw [pickM_length]; omega) (by rw [coloursM_length, HCL.out]; unfold outsM; rw [pickM_length]) (coloursM_i64 _) (cols_i64 HT.out)).mono ?_; rintro e wf ⟨u7, rfl, hu, hb⟩; have HD := Lib.hid hb; have HU7 := Lib.hid hu))
  have hE : Below W4.heap.size W4 wf := by assumption
  have hsz : w.heap.size ≤ we.heap.size := Nat.le_trans HB4.out.size HF6.out.size
  go_wp2
  go_ret2; rw [HM.out]
  exact RetIB.yes (HU7.out.mono hsz) (below_step HB4.out hE)
end Go.Proofs.YtejeppjmlgfiaaaGreat

/- Contracts of the labels of all wires, the reference's. Conditions: the circuit, the tables and the inputs are valid. -/
namespace Go.Proofs.YtejeppjmlgfiaaaGreat
open Go.RowKit
set_option linter.unusedVariables false

set_option maxRecDepth 100000 in
set_option maxHeartbeats 2000000 in
theorem c_spec_hgEval {c : Cir} {T : Gb} {gv ov rv nv cv vi : Value} {inp : List Int} {w : World} (h : CirIn w gv ov c) (hc : cirB c = true) (h2 : GbIn w rv nv cv T) (ht : tabB 2 c T = true)
    (hi : Ints w vi inp) (hil : (inp.length : Int) = c.ins) (hib : ∀ x ∈ inp, 0 ≤ x ∧ x ≤ 65535) :
    Calls Tryz.prog 64 #[cirV c gv ov, gbV rv nv cv, vi] w (RetI w (pickM (wiresM joinM T inp c.gs).1 c.outs)) := by
  have hbd := cirB_bd hc
  have hgl : c.gs.length ≤ 300 := hbd.2.2.2.2.1
  have hol2 : c.outs.length ≤ 40 := hbd.2.2.2.2.2
  have hins : 0 ≤ c.ins ∧ c.ins ≤ 40 := by unfold Cir.ins; omega
  have htt := tabB_of ht
  have HT := Lib.hid htt
  have HGB := Lib.hid (cirB_gates hc)
  have HKB := Lib.hid (cirB_kinds hc)
  have HBD := Lib.hid (wires_bd (F := joinM) (n := 0) (T := T) hib htt.2.2.2.1 (fun r hr => (htt.2.1 r hr).2) (fun w x y r hx hr => joinM_bd hx hr))
  have HOB := Lib.hid (outs_bd (F := joinM) (g := T) hc hil)
  have HWL := Lib.hid (wires_len (F := joinM) (g := T) hc hil)
  have HI := Lib.hid hi
  have HHO := Lib.hid h.outs
  obtain ⟨hg, ho⟩ := h
  obtain ⟨A, cg, rfl, hlg, hmg, hrg⟩ := hg
  obtain ⟨A', co, rfl, -⟩ := ho
  obtain ⟨hr, ho, hcc⟩ := h2
  obtain ⟨A1, c1, rfl, hl1, hm1, hat⟩ := hr.form
  obtain ⟨A2, c2, rfl, hl2, hm2, hro⟩ := ho
  obtain ⟨A3, c3, rfl, -⟩ := hcc
  have HAT := Lib.hid hat
  have HRG := Lib.hid hrg
  have HRO := Lib.hid hro
  have hrl : (T.rows.length : Int) = cnt 1 c.gs := htt.1
  have hol : (T.ones.length : Int) = cnt 3 c.gs := htt.2.2.1
  have HRL := Lib.hid hrl
  have HOL := Lib.hid hol
  have hcb1 := cnt_bd 1 c.gs
  have hcb3 := cnt_bd 3 c.gs
  have hrn : T.rows.length ≤ 300 := by omega
  have hon : T.ones.length ≤ 300 := by omega
  unfold maxLen at hmg hm1 hm2
  clear hc hr hbd hat hrg htt ht hib hro hrl hol hcb1 hcb3
  unfold cirV gbV
  obtain ⟨w0, hw0⟩ : ∃ W, (w.alloc (.cells #[.int .i64 c.i0, .int .i64 c.i1, .slice A c.gs.length cg, .slice A' c.outs.length co] 26)).alloc (.cells #[.slice A1 T.rows.length c1, .slice A2 T.ones.length c2, .slice A3 T.cols.length c3] 35) = W := ⟨_, rfl⟩
  have HKC := Lib.hid ((Blk.new w 26 #[.int .i64 c.i0, .int .i64 c.i1, .slice A c.gs.length cg, .slice A' c.outs.length co]).alloc (.cells #[.slice A1 T.rows.length c1, .slice A2 T.ones.length c2, .slice A3 T.cols.length c3] 35))
  rw [hw0] at HKC
  have HKG := Lib.hid (Blk.new (w.alloc (.cells #[.int .i64 c.i0, .int .i64 c.i1, .slice A c.gs.length cg, .slice A' c.outs.length co] 26)) 35 #[.slice A1 T.rows.length c1, .slice A2 T.ones.length c2, .slice A3 T.cols.length c3])
  simp only [World.size_alloc, hw0] at HKG
  have hz0 : w.heap.size + 2 ≤ w0.heap.size := by rw [← hw0]; simp
  have HB : Hid (Below w.heap.size w w0) := by rw [← hw0]; exact ((Below.refl w.heap.size w).alloc (Nat.le_refl _) _).alloc (by simp) _
  go_enter Tryz.func64, Tryz.ntmps64
  go_wp2_with fail
  clear hw0
  refine (c_spec_l1Own (HI.out.below HB.out) (by omega)).mono ?_
  rintro e w1 ⟨u, rfl, hu, hb⟩
  have HU := Lib.hid (hu.mono hz0)
  have hz1 : w.heap.size + 2 ≤ w1.heap.size := Nat.le_trans hz0 hb.size
  replace HB := Lib.hid (below_step HB.out hb)
  replace HKC := Lib.hid (HKC.out.step hb)
  replace HKG := Lib.hid (HKG.out.step hb)
  have x2 : w1.cell? ⟨w.heap.size, 2, none⟩ = some (.slice A c.gs.length cg) := HKC.out.cell 2
  clear hb hu
  go_wp2
  clear x2
  go_loopw [7, 8, 9, 21] (fun o a n i wr => ∃ k : Nat, k ≤ c.gs.length ∧ i = .int .i64 k ∧ a = .int .i64 ((wiresM joinM T inp (c.gs.take k)).2.1 : Nat) ∧ n = .int .i64 ((wiresM joinM T inp (c.gs.take k)).2.2 : Nat) ∧ Hid (OwnI wr (w.heap.size + 2) o (wiresM joinM T inp (c.gs.take k)).1) ∧ Hid (Below w.heap.size w wr) ∧ w.heap.size + 2 ≤ wr.heap.size ∧ Hid (Blk wr (w.heap.size + 1) 35 #[.slice A1 T.rows.length c1, .slice A2 T.ones.length c2, .slice A3 T.cols.length c3]) ∧ Hid (Blk wr w.heap.size 26 #[.int .i64 c.i0, .int .i64 c.i1, .slice A c.gs.length cg, .slice A' c.outs.length co])) (fun _ _ _ i _ => c.gs.length - (intOf i).toNat)
  case atStart => exact ⟨0, Nat.zero_le _, rfl, rfl, rfl, HU, HB, hz1, HKG, HKC⟩
  case round =>
    obtain ⟨k, hk, rfl, rfl, rfl, HO, HB, hzr, HKG, HKC⟩ := hrel
    by_cases hlt : k < c.gs.length
    · obtain ⟨b, o, g, rfl, hbl, hgk, c0, c1', c2'⟩ := (HRG.out.below HB.out).gate_at hlt
      have hgb := gate_ab (gatesB_at _ _ k g HGB.out hgk)
      obtain ⟨i1, i2, i3⟩ := wires_inv (F := joinM) (T := T) (inp := inp) HKB.out k (by omega)
      have HS := Lib.hid (wires_snoc (F := joinM) (T := T) (inp := inp) hgk)
      have hbs := HBD.out (c.gs.take k)
      have hlt1 := fun (hj : g.k = 1) => cnt_lt hgk hj
      have hlt3 := fun (hj : g.k = 3) => cnt_lt hgk hj
      generalize hs : wiresM joinM T inp (c.gs.take k) = s at *
      clear hs hgk
      obtain ⟨gk, ga, gb⟩ := g
      obtain ⟨l, na, no⟩ := s
      simp only at c0 c1' c2' hgb i1 i2 i3 hbs hlt1 hlt3 HO
      obtain ⟨Au, cu, rfl, hlu, hmu, hru⟩ := own_form HO.out
      unfold maxLen at hmu
      have hll : (l.length : Int) = c.ins + k := by omega
      have hl340 : l.length ≤ 340 := by omega
      have HLL := Lib.hid hll
      have HBS := Lib.hid hbs
      have HRU := Lib.hid hru
      obtain ⟨wb, hwb⟩ : ∃ W, wr.alloc (.cells #[.int .i64 gk, .int .i64 ga, .int .i64 gb] 117) = W := ⟨_, rfl⟩
      have hbb : Below wr.heap.size wr wb := by rw [← hwb]; exact (Below.refl _ _).alloc (Nat.le_refl _) _
      have HBX : Hid (Blk wb wr.heap.size 117 #[.int .i64 gk, .int .i64 ga, .int .i64 gb]) := by rw [← hwb]; exact Blk.new _ _ _
      have y0 : wb.cell? ⟨wr.heap.size, 0, none⟩ = some (.int .i64 gk) := HBX.out.cell 0
      have y1 : wb.cell? ⟨wr.heap.size, 1, none⟩ = some (.int .i64 ga) := HBX.out.cell 1
      have y2 : wb.cell? ⟨wr.heap.size, 2, none⟩ = some (.int .i64 gb) := HBX.out.cell 2
      have HBB := Lib.hid hbb
      have HB2 := Lib.hid (below_step HB.out hbb)
      have HKG2 := Lib.hid (HKG.out.step hbb)
      have HKC2 := Lib.hid (HKC.out.step hbb)
      have HO2 := Lib.hid (HO.out.below hbb)
      have hsz : w.heap.size + 2 ≤ wb.heap.size := Nat.le_trans hzr HBB.out.size
      clear hbb hll hbs hru HB HKG HO HKC hlu hmu
      have hkk : gk = 0 ∨ gk = 1 ∨ gk = 2 ∨ gk = 3 := by omega
      rcases hkk with rfl | rfl | rfl | rfl
      · -- exclusive-or
        have hab := hgb.2.1 (Or.inl rfl)
        obtain ⟨ja, rfl, hja, hea⟩ := elt_at (l := l) hab.1 (by have := HLL.out; omega)
        obtain ⟨jb, rfl, hjb, heb⟩ := elt_at (l := l) hab.2.2.1 (by have := HLL.out; omega)
        obtain ⟨bo, oo, xa, rfl, hbo, hxa, hca⟩ := (HRU.out.below HBB.out).int_at hja
        obtain ⟨bo2, oo2, xb, e2, hbo2, hxb, hcb⟩ := (HRU.out.below HBB.out).int_at hjb
        injection e2 with e2; injection e2 with e2 e2'; subst e2 e2'
        have exa := hea.symm.trans hxa
        have exb := heb.symm.trans hxb
        injection exa with exa
        injection exb with exb
        have ba := elt_bd (k := (ja : Int)) HBS.out
        have bb := elt_bd (k := (jb : Int)) HBS.out
        rw [exa] at ba
        rw [exb] at bb
        have hxor := bits_xor ba.1 bb.1 (by omega) (by omega)
        have HW := Lib.hid (show wireStep joinM T (l, na, no) ⟨0, (ja : Int), (jb : Int)⟩ = (l ++ [xorI xa xb], na, no) by unfold wireStep; simp only [if_true]; rw [exa, exb])
        clear hgb hlt1 hlt3 hea heb hxa hxb exa exb hab i1 i2 i3
        have hja0 : (0 : Int) ≤ (ja : Int) := Int.natCast_nonneg _
        have hja1 : (ja : Int) < (l.length : Int) := by omega
        have hjb0 : (0 : Int) ≤ (jb : Int) := Int.natCast_nonneg _
        have hjb1 : (jb : Int) < (l.length : Int) := by omega
        go_wp2_with fail
        go_region_held3 (fun w' => w'.cell? ⟨wr.heap.size, 1, none⟩ = some (.int .i64 (ja : Int)) ∧ w'.cell? ⟨wr.heap.size, 2, none⟩ = some (.int .i64 (jb : Int)) ∧ w'.cell? ⟨bo, oo + ja, none⟩ = some (.int .i64 xa) ∧ w'.cell? ⟨bo, oo + jb, none⟩ = some (.int .i64 xb)) (exact ⟨y1, y2, hca, hcb⟩) (fail)
        go_wp2_with (at_builtin; refine wp_app1 (B := w.heap.size + 2) rfl rfl Tryz.underlying24 info_int rfl (own_drew HO2.out) rfl rfl rfl (by unfold maxLen; omega) (by omega) hsz ?_; intro v' w9 ho hg hfr)
        have HBn := Lib.hid (below_app HB2.out.drew (own_mono (own_drew HO2.out) (Nat.le_add_right _ 2)) hg (Nat.le_refl _))
        have HKn := Lib.hid (HKG2.out.drew.grown hg (fun e => by have := own_ge (own_drew HO2.out) _ e.symm; omega))
        have HCn := Lib.hid (HKC2.out.drew.grown hg (fun e => by have := own_ge (own_drew HO2.out) _ e.symm; omega))
        have hzn := Nat.le_trans hsz hg.size
        go_roundw
        case rel => exact ⟨k + 1, by omega, by go_num, by rw [HS.out, HW.out], by rw [HS.out, HW.out], by rw [HS.out, HW.out]; exact Lib.hid (OwnI.snoc ho), HBn, hzn, HKn, HCn⟩
        case measure => simp [intOf]; omega
      · -- and
        have hab := hgb.2.1 (Or.inr rfl)
        obtain ⟨ja, rfl, hja, hea⟩ := elt_at (l := l) hab.1 (by have := HLL.out; omega)
        obtain ⟨jb, rfl, hjb, heb⟩ := elt_at (l := l) hab.2.2.1 (by have := HLL.out; omega)
        obtain ⟨bo, oo, xa, rfl, hbo, hxa, hca⟩ := (HRU.out.below HBB.out).int_at hja
        obtain ⟨bo2, oo2, xb, e2, hbo2, hxb, hcb⟩ := (HRU.out.below HBB.out).int_at hjb
        injection e2 with e2; injection e2 with e2 e2'; subst e2 e2'
        have exa := hea.symm.trans hxa
        have exb := heb.symm.trans hxb
        injection exa with exa
        injection exb with exb
        have ba := elt_bd (k := (ja : Int)) HBS.out
        have bb := elt_bd (k := (jb : Int)) HBS.out
        rw [exa] at ba
        rw [exb] at bb
        have hna : na < T.rows.length := by have h1 := hlt1 rfl; have h2 := HRL.out; omega
        obtain ⟨br, or', Ar, r, cr, rfl, hbr, hrr, hcr, hir⟩ := HAT.out na hna
        have hrt := HT.out.2.1 r (List.mem_of_getElem? hrr)
        have HRT := Lib.hid hrt
        have HIR := Lib.hid hir
        have HW := Lib.hid (show wireStep joinM T (l, na, no) ⟨1, (ja : Int), (jb : Int)⟩ = (l ++ [joinM (l.length : Int) xa xb r], na + 1, no) by unfold wireStep; simp only [Int.reduceEq, if_false]; rw [exa, exb, getD_at hrr])
        have g1 : wb.cell? ⟨w.heap.size + 1, 0, none⟩ = some (.slice (some ⟨br, or', none⟩) T.rows.length c1) := HKG2.out.cell 0
        have hcr2 := (HB2.out.cell (p := ⟨br, or' + na, none⟩) hbr).trans hcr
        have q1 := belowCell y1
        have q2 := belowCell y2
        have q3 := belowCell hca
        have q4 := belowCell hcb
        have q5 := belowCell g1
        have q6 := belowCell hcr2
        clear hgb hlt1 hlt3 hea heb hxa hxb exa exb hab i1 i2 i3 hrr hrt hir hcr y1 y2 hca hcb g1 hcr2
        have hja0 : (0 : Int) ≤ (ja : Int) := Int.natCast_nonneg _
        have hja1 : (ja : Int) < (l.length : Int) := by omega
        have hjb0 : (0 : Int) ≤ (jb : Int) := Int.natCast_nonneg _
        have hjb1 : (jb : Int) < (l.length : Int) := by omega
        have hna0 : (0 : Int) ≤ (na : Int) := Int.natCast_nonneg _
        have hna1 : (na : Int) < (T.rows.length : Int) := by omega
        have hra := row2 HIR.out HRT.out.1
        obtain ⟨b9, o9, c9, r0, r1, rfl, e9, hc9, hc0, hc1⟩ := hra
        injection e9 with e91 e92 e93
        subst e91 e93
        have hr0 := HRT.out.2 r0 (by simp)
        have hr1 := HRT.out.2 r1 (by simp)
        have p0 := belowCell ((HB2.out.cell (p := ⟨b9, o9, none⟩) (World.block_lt_of_cell? w _ hc0)).trans hc0)
        have p1 := belowCell ((HB2.out.cell (p := ⟨b9, o9 + 1, none⟩) (World.block_lt_of_cell? w _ hc1)).trans hc1)
        have HJ := Lib.hid (show joinM (l.length : Int) xa xb [r0, r1] = xorI (xorI (xorI (digM [(l.length : Int), 15, xa, 0]) (r0 * (xa % 2))) (digM [(l.length : Int), 15, xb, 1])) (xorI r1 xa * (xb % 2)) from rfl)
        have hd0 := digM_bd [(l.length : Int), 15, xa, 0]
        have hd1 := digM_bd [(l.length : Int), 15, xb, 1]
        have HC0 := Lib.hid (fun W => c_spec_hgCipher (w := W) (n := (l.length : Int)) (l := xa) (s := 0) (by omega) (by omega) (by omega))
        have HC1 := Lib.hid (fun W => c_spec_hgCipher (w := W) (n := (l.length : Int)) (l := xb) (s := 1) (by omega) (by omega) (by omega))
        generalize digM [(l.length : Int), 15, xa, 0] = d0 at *
        generalize digM [(l.length : Int), 15, xb, 1] = d1 at *
        have ta := tmod2 ba.1
        have tb := tmod2 bb.1
        have ha2 : xa % 2 = 0 ∨ xa % 2 = 1 := by omega
        have hb2 : xb % 2 = 0 ∨ xb % 2 = 1 := by omega
        have bT0 := mulbit_bd (b := xa) hr0
        have bY := xorI_bd hr1.1 ba.1 hr1.2 ba.2
        have zY := bits_xor hr1.1 ba.1 (by omega) (by omega)
        have bT1 := mulbit_bd (b := xb) bY
        have z1 := bits_xor hd0.1 bT0.1 (by omega) (by omega)
        have b1 := xorI_bd hd0.1 bT0.1 hd0.2 bT0.2
        have z2 := bits_xor b1.1 hd1.1 (by omega) (by omega)
        have b2 := xorI_bd b1.1 hd1.1 b1.2 hd1.2
        have z3 := bits_xor b2.1 bT1.1 (by omega) (by omega)
        clear hc0 hc1
        go_wp2_with fail
        go_region_held3 (fun w' => Below wb.heap.size wb w') (first | (exact (Below.refl _ _).drew) | assumption) (fail)
        go_wp2_with fail
        go_region_held3 (fun w' => Below wb.heap.size wb w')
          (first | assumption | (refine below_step ?_ HD.out; assumption) | (exact (Below.refl _ _).drew.drew))
          (first
            | (go_at_call_of 131 (Value.int IntKind.i64 0); refine (HC0.out _).mono ?_; rintro e wz ⟨rfl, hb⟩; have HD := Lib.hid hb)
            | (go_at_call_of 131 (Value.int IntKind.i64 1); refine (HC1.out _).mono ?_; rintro e wz ⟨rfl, hb⟩; have HD := Lib.hid hb)
            | (go_at_call_of 132 (Value.int IntKind.i64 r0); refine (c_spec_hgIf ha2).mono ?_; rintro e w' ⟨rfl, rfl⟩)
            | (go_at_call_of 132 (Value.int IntKind.i64 (xorI r1 xa)); refine (c_spec_hgIf hb2).mono ?_; rintro e w' ⟨rfl, rfl⟩))
        have hE : Below wb.heap.size wb wz := by assumption
        have HEE := Lib.hid hE
        have HB3 := Lib.hid (below_step HB2.out hE)
        have HKG3 := Lib.hid (HKG2.out.step hE)
        have HKC3 := Lib.hid (HKC2.out.step hE)
        have HO3 := Lib.hid (HO2.out.below hE)
        have hsz3 := Nat.le_trans hsz hE.size
        clear hE q1 q2 q3 q4 q5 q6
        go_wp2_with (at_builtin; refine wp_app1 (B := w.heap.size + 2) rfl rfl Tryz.underlying24 info_int rfl HO3.out rfl rfl rfl (by unfold maxLen; omega) (by omega) hsz3 ?_; intro v' w9 ho hg hfr)
        have HBn := Lib.hid (below_app HB3.out (own_mono HO3.out (Nat.le_add_right _ 2)) hg (Nat.le_refl _))
        have HKn := Lib.hid (HKG3.out.grown hg (fun e => by have := own_ge HO3.out _ e.symm; omega))
        have HCn := Lib.hid (HKC3.out.grown hg (fun e => by have := own_ge HO3.out _ e.symm; omega))
        have hzn := Nat.le_trans hsz3 hg.size
        go_roundw
        case rel => exact ⟨k + 1, by omega, by go_num, by rw [HS.out, HW.out]; go_num, by rw [HS.out, HW.out], by rw [HS.out, HW.out, HJ.out]; exact Lib.hid (OwnI.snoc ho), HBn, hzn, HKn, HCn⟩
        case measure => simp [intOf]; omega
      · -- not
        have hab := hgb.2.2 rfl
        obtain ⟨ja, rfl, hja, hea⟩ := elt_at (l := l) hab.1 (by have := HLL.out; omega)
        obtain ⟨bo, oo, xa, rfl, hbo, hxa, hca⟩ := (HRU.out.below HBB.out).int_at hja
        have exa := hea.symm.trans hxa
        injection exa with exa
        have HW := Lib.hid (show wireStep joinM T (l, na, no) ⟨2, (ja : Int), gb⟩ = (l ++ [xa], na, no) by unfold wireStep; simp only [Int.reduceEq, if_false, if_true]; rw [exa])
        clear hgb hlt1 hlt3 hea hxa exa hab i1 i2 i3
        have hja0 : (0 : Int) ≤ (ja : Int) := Int.natCast_nonneg _
        have hja1 : (ja : Int) < (l.length : Int) := by omega
        go_wp2_with (at_builtin; refine wp_app1 (B := w.heap.size + 2) rfl rfl Tryz.underlying24 info_int rfl HO2.out rfl rfl rfl (by unfold maxLen; omega) (by omega) hsz ?_; intro v' w9 ho hg hfr)
        have HBn := Lib.hid (below_app HB2.out (own_mono HO2.out (Nat.le_add_right _ 2)) hg (Nat.le_refl _))
        have HKn := Lib.hid (HKG2.out.grown hg (fun e => by have := own_ge HO2.out _ e.symm; omega))
        have HCn := Lib.hid (HKC2.out.grown hg (fun e => by have := own_ge HO2.out _ e.symm; omega))
        have hzn := Nat.le_trans hsz hg.size
        go_roundw
        case rel => exact ⟨k + 1, by omega, by go_num, by rw [HS.out, HW.out], by rw [HS.out, HW.out], by rw [HS.out, HW.out]; exact Lib.hid (OwnI.snoc ho), HBn, hzn, HKn, HCn⟩
        case measure => simp [intOf]; omega
      · -- one
        have hno : no < T.ones.length := by have h1 := hlt3 rfl; have h2 := HOL.out; omega
        obtain ⟨br, or', xo, rfl, hbr, hxo, hcr⟩ := HRO.out.int_at hno
        have HW := Lib.hid (show wireStep joinM T (l, na, no) ⟨3, ga, gb⟩ = (l ++ [xo], na, no + 1) by unfold wireStep; simp only [Int.reduceEq, if_false, if_true]; rw [getD_at hxo])
        have g1 : wb.cell? ⟨w.heap.size + 1, 1, none⟩ = some (.slice (some ⟨br, or', none⟩) T.ones.length c2) := HKG2.out.cell 1
        have hcr2 := (HB2.out.cell (p := ⟨br, or' + no, none⟩) hbr).trans hcr
        clear hgb hlt1 hlt3 i1 i2 i3 hxo hcr
        have hno0 : (0 : Int) ≤ (no : Int) := Int.natCast_nonneg _
        have hno1 : (no : Int) < (T.ones.length : Int) := by omega
        go_wp2_with (at_builtin; refine wp_app1 (B := w.heap.size + 2) rfl rfl Tryz.underlying24 info_int rfl HO2.out rfl rfl rfl (by unfold maxLen; omega) (by omega) hsz ?_; intro v' w9 ho hg hfr)
        have HBn := Lib.hid (below_app HB2.out (own_mono HO2.out (Nat.le_add_right _ 2)) hg (Nat.le_refl _))
        have HKn := Lib.hid (HKG2.out.grown hg (fun e => by have := own_ge HO2.out _ e.symm; omega))
        have HCn := Lib.hid (HKC2.out.grown hg (fun e => by have := own_ge HO2.out _ e.symm; omega))
        have hzn := Nat.le_trans hsz hg.size
        go_roundw
        case rel => exact ⟨k + 1, by omega, by go_num, by rw [HS.out, HW.out], by rw [HS.out, HW.out]; go_num, by rw [HS.out, HW.out]; exact Lib.hid (OwnI.snoc ho), HBn, hzn, HKn, HCn⟩
        case measure => simp [intOf]; omega
    · obtain rfl : k = c.gs.length := by omega
      have HE := Lib.hid (show c.gs.take c.gs.length = c.gs from List.take_of_length_le (Nat.le_refl _))
      have HO2 := Lib.hid (show OwnI wr (w.heap.size + 2) _ (wiresM joinM T inp c.gs).1 by have := HO.out; rw [HE.out] at this; exact this)
      have x3 : wr.cell? ⟨w.heap.size, 3, none⟩ = some (.slice A' c.outs.length co) := HKC.out.cell 3
      clear HO
      go_wp2_with fail
      refine (c_spec_ciPick HO2.out.ints (HHO.out.below HB.out) (Nat.le_trans HWL.out (by omega)) (by omega) HOB.out).mono ?_
      rintro e w9 ⟨u9, rfl, hu9, hb9⟩
      go_wp2
      go_ret
      exact RetI.mk (hu9.mono HB.out.size) (below_step HB.out hb9)
end Go.Proofs.YtejeppjmlgfiaaaGreat

/- Contracts of the evaluation of garbled and halved circuits, the reference's. Conditions: the lists are short. -/
namespace Go.Proofs.YtejeppjmlgfiaaaGreat
open Go.RowKit
set_option linter.unusedVariables false

set_option maxRecDepth 100000 in
set_option maxHeartbeats 2000000 in
theorem c_spec_EvalGarbled {c : Cir} {g : Gb} {gv ov rv nv cv vi : Value} {l : List Int} {w : World} (h : CirIn w gv ov c) (h2 : GbIn w rv nv cv g) (hs : g.sz ≤ 1048576) (hi : Ints w vi l) (hl : l.length ≤ 1048576) :
    Calls Tryz.prog 39 #[cirV c gv ov, gbV rv nv cv, vi] w (RetIB w (evalM 3 openM c g l)) := by
  have H := Lib.hid h
  have H2 := Lib.hid h2
  have HI := Lib.hid hi
  obtain ⟨hg, ho⟩ := h
  obtain ⟨A, cg, rfl, -⟩ := hg
  obtain ⟨A', co, rfl, -⟩ := ho
  obtain ⟨hr, ho, hcc⟩ := h2
  obtain ⟨A1, c1, rfl, -⟩ := hr.form
  obtain ⟨A2, c2, rfl, -⟩ := ho
  obtain ⟨A3, c3, rfl, -⟩ := hcc
  obtain ⟨AI, cI, rfl, -⟩ := hi
  clear hr
  unfold cirV gbV
  obtain ⟨w0, hw0⟩ : ∃ W, (w.alloc (.cells #[.int .i64 c.i0, .int .i64 c.i1, .slice A c.gs.length cg, .slice A' c.outs.length co] 26)).alloc (.cells #[.slice A1 g.rows.length c1, .slice A2 g.ones.length c2, .slice A3 g.cols.length c3] 50) = W := ⟨_, rfl⟩
  have HKC := Lib.hid ((Blk.new w 26 #[.int .i64 c.i0, .int .i64 c.i1, .slice A c.gs.length cg, .slice A' c.outs.length co]).alloc (.cells #[.slice A1 g.rows.length c1, .slice A2 g.ones.length c2, .slice A3 g.cols.length c3] 50))
  rw [hw0] at HKC
  have HKG := Lib.hid (Blk.new (w.alloc (.cells #[.int .i64 c.i0, .int .i64 c.i1, .slice A c.gs.length cg, .slice A' c.outs.length co] 26)) 50 #[.slice A1 g.rows.length c1, .slice A2 g.ones.length c2, .slice A3 g.cols.length c3])
  simp only [World.size_alloc, hw0] at HKG
  have HB : Hid (Below w.heap.size w w0) := by rw [← hw0]; exact ((Below.refl w.heap.size w).alloc (Nat.le_refl _) _).alloc (by simp) _
  have x0 : w0.cell? ⟨w.heap.size, 0, none⟩ = some (.int .i64 c.i0) := HKC.out.cell 0
  have x1 : w0.cell? ⟨w.heap.size, 1, none⟩ = some (.int .i64 c.i1) := HKC.out.cell 1
  have x2 : w0.cell? ⟨w.heap.size, 2, none⟩ = some (.slice A c.gs.length cg) := HKC.out.cell 2
  have x3 : w0.cell? ⟨w.heap.size, 3, none⟩ = some (.slice A' c.outs.length co) := HKC.out.cell 3
  have y0 : w0.cell? ⟨w.heap.size + 1, 0, none⟩ = some (.slice A1 g.rows.length c1) := HKG.out.cell 0
  have y1 : w0.cell? ⟨w.heap.size + 1, 1, none⟩ = some (.slice A2 g.ones.length c2) := HKG.out.cell 1
  have y2 : w0.cell? ⟨w.heap.size + 1, 2, none⟩ = some (.slice A3 g.cols.length c3) := HKG.out.cell 2
  go_enter Tryz.func39, Tryz.ntmps39
  go_wp2_with fail
  clear hw0 x0 x1 x2 x3 y0 y1 y2
  refine (c_spec_ciGood (H.out.below HB.out)).mono ?_
  rintro e w1 ⟨rfl, hb⟩
  replace HB := Lib.hid (below_step HB.out hb)
  replace HKC := Lib.hid (HKC.out.step hb)
  replace HKG := Lib.hid (HKG.out.step hb)
  clear hb
  rcases hc : cirB c with _ | _
  · have HM := Lib.hid (show evalM 3 openM c g l = none by simp [evalM, hc])
    go_wp2
    go_ret2; rw [HM.out]; exact RetIB.no_below HB.out
  have x0 : w1.cell? ⟨w.heap.size, 0, none⟩ = some (.int .i64 c.i0) := HKC.out.cell 0
  have x1 : w1.cell? ⟨w.heap.size, 1, none⟩ = some (.int .i64 c.i1) := HKC.out.cell 1
  have x2 : w1.cell? ⟨w.heap.size, 2, none⟩ = some (.slice A c.gs.length cg) := HKC.out.cell 2
  have x3 : w1.cell? ⟨w.heap.size, 3, none⟩ = some (.slice A' c.outs.length co) := HKC.out.cell 3
  have y0 : w1.cell? ⟨w.heap.size + 1, 0, none⟩ = some (.slice A1 g.rows.length c1) := HKG.out.cell 0
  have y1 : w1.cell? ⟨w.heap.size + 1, 1, none⟩ = some (.slice A2 g.ones.length c2) := HKG.out.cell 1
  have y2 : w1.cell? ⟨w.heap.size + 1, 2, none⟩ = some (.slice A3 g.cols.length c3) := HKG.out.cell 2
  have HC := Lib.hid hc
  clear hc
  go_wp2_with fail
  clear x0 x1 x2 x3 y0 y1 y2
  refine (c_spec_gbGood (H.out.below HB.out) HC.out (H2.out.below HB.out) hs).mono ?_
  rintro e w2 ⟨rfl, hb⟩
  replace HB := Lib.hid (below_step HB.out hb)
  replace HKC := Lib.hid (HKC.out.step hb)
  replace HKG := Lib.hid (HKG.out.step hb)
  clear hb
  rcases ht : tabB 3 c g with _ | _
  · have HM := Lib.hid (show evalM 3 openM c g l = none by simp [evalM, ht])
    go_wp2
    go_ret2; rw [HM.out]; exact RetIB.no_below HB.out
  have x0 : w2.cell? ⟨w.heap.size, 0, none⟩ = some (.int .i64 c.i0) := HKC.out.cell 0
  have x1 : w2.cell? ⟨w.heap.size, 1, none⟩ = some (.int .i64 c.i1) := HKC.out.cell 1
  have x2 : w2.cell? ⟨w.heap.size, 2, none⟩ = some (.slice A c.gs.length cg) := HKC.out.cell 2
  have x3 : w2.cell? ⟨w.heap.size, 3, none⟩ = some (.slice A' c.outs.length co) := HKC.out.cell 3
  have y0 : w2.cell? ⟨w.heap.size + 1, 0, none⟩ = some (.slice A1 g.rows.length c1) := HKG.out.cell 0
  have y1 : w2.cell? ⟨w.heap.size + 1, 1, none⟩ = some (.slice A2 g.ones.length c2) := HKG.out.cell 1
  have y2 : w2.cell? ⟨w.heap.size + 1, 2, none⟩ = some (.slice A3 g.cols.length c3) := HKG.out.cell 2
  have HT := Lib.hid ht
  have hbd := cirB_bd HC.out
  have hins : 0 ≤ c.ins ∧ c.ins ≤ 40 := by unfold Cir.ins; omega
  clear ht
  go_wp2_with fail
  clear x0 x1 x2 x3 y0 y1 y2
  refine (c_spec_ciInputs (H.out.below HB.out) ⟨hbd.1, hbd.2.1, hbd.2.2.1, hbd.2.2.2.1⟩).mono ?_
  rintro e w3 ⟨rfl, hb⟩
  replace HB := Lib.hid (below_step HB.out hb)
  replace HKC := Lib.hid (HKC.out.step hb)
  replace HKG := Lib.hid (HKG.out.step hb)
  clear hb
  rcases hn : ((l.length : Int) != c.ins) with _ | _
  rotate_left
  · have HM := Lib.hid (show evalM 3 openM c g l = none by (have : ¬ (l.length : Int) = c.ins := (by simpa using hn)); simp [evalM, this])
    go_wp2
    go_ret2; rw [HM.out]; exact RetIB.no_below HB.out
  have HN := Lib.hid (show (l.length : Int) = c.ins by simpa using hn)
  have hol : c.outs.length ≤ 40 := hbd.2.2.2.2.2
  have HLB := Lib.hid (show labsB l = allB l 0 65535 by have h2 := HN.out; simp [labsB]; intro _; omega)
  clear hbd
  go_wp2_with fail
  refine (c_spec_lbAll (HI.out.below HB.out) (by omega)).mono ?_
  rw [HLB.out]
  rintro e w' ⟨rfl, rfl⟩
  rcases ha : allB l 0 65535 with _ | _
  · have HM := Lib.hid (show evalM 3 openM c g l = none by simp [evalM, ha])
    go_wp2
    go_ret2; rw [HM.out]; exact RetIB.no_below HB.out
  have x0 : w3.cell? ⟨w.heap.size, 0, none⟩ = some (.int .i64 c.i0) := HKC.out.cell 0
  have x1 : w3.cell? ⟨w.heap.size, 1, none⟩ = some (.int .i64 c.i1) := HKC.out.cell 1
  have x2 : w3.cell? ⟨w.heap.size, 2, none⟩ = some (.slice A c.gs.length cg) := HKC.out.cell 2
  have x3 : w3.cell? ⟨w.heap.size, 3, none⟩ = some (.slice A' c.outs.length co) := HKC.out.cell 3
  have y0 : w3.cell? ⟨w.heap.size + 1, 0, none⟩ = some (.slice A1 g.rows.length c1) := HKG.out.cell 0
  have y1 : w3.cell? ⟨w.heap.size + 1, 1, none⟩ = some (.slice A2 g.ones.length c2) := HKG.out.cell 1
  have y2 : w3.cell? ⟨w.heap.size + 1, 2, none⟩ = some (.slice A3 g.cols.length c3) := HKG.out.cell 2
  have HA := Lib.hid ha
  have HM := Lib.hid (show evalM 3 openM c g l = some (pickM (wiresM openM g l c.gs).1 c.outs) by unfold evalM; rw [HC.out, HT.out, HA.out, HN.out]; simp)
  clear ha
  go_wp2_with fail
  clear x0 x1 x2 x3 y0 y1 y2
  refine (c_spec_gbWires (H.out.below HB.out) HC.out (H2.out.below HB.out) HT.out (HI.out.below HB.out) HN.out (allB_bd HA.out)).mono ?_
  rintro e w4 ⟨u1, u2, rfl, hu1, hu2, hb⟩
  have HU := Lib.hid (show Ints w4 u1 (wiresM openM g l c.gs).1 by have := hu1.ints; rw [used_fst] at this; exact this)
  have hsz3 := HB.out.size
  replace HB := Lib.hid (below_step HB.out hb)
  replace HKC := Lib.hid (HKC.out.step hb)
  replace HKG := Lib.hid (HKG.out.step hb)
  clear hb hu1 hu2
  have x0 : w4.cell? ⟨w.heap.size, 0, none⟩ = some (.int .i64 c.i0) := HKC.out.cell 0
  have x1 : w4.cell? ⟨w.heap.size, 1, none⟩ = some (.int .i64 c.i1) := HKC.out.cell 1
  have x2 : w4.cell? ⟨w.heap.size, 2, none⟩ = some (.slice A c.gs.length cg) := HKC.out.cell 2
  have x3 : w4.cell? ⟨w.heap.size, 3, none⟩ = some (.slice A' c.outs.length co) := HKC.out.cell 3
  have y0 : w4.cell? ⟨w.heap.size + 1, 0, none⟩ = some (.slice A1 g.rows.length c1) := HKG.out.cell 0
  have y1 : w4.cell? ⟨w.heap.size + 1, 1, none⟩ = some (.slice A2 g.ones.length c2) := HKG.out.cell 1
  have y2 : w4.cell? ⟨w.heap.size + 1, 2, none⟩ = some (.slice A3 g.cols.length c3) := HKG.out.cell 2
  go_wp2_with fail
  refine (c_spec_ciPick HU.out (H.out.below HB.out).outs (Nat.le_trans (wires_len HC.out HN.out) (by omega)) (by omega) (outs_bd HC.out HN.out)).mono ?_
  rintro e w5 ⟨u, rfl, hu, hb⟩
  go_wp2
  go_ret2; rw [HM.out]; exact RetIB.yes (hu.mono HB.out.size) (below_step HB.out hb)
end Go.Proofs.YtejeppjmlgfiaaaGreat
