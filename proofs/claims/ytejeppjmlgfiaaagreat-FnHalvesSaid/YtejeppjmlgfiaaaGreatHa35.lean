/- Contracts of the zero labels of all wires, the program's. Conditions: the circuit, the key and the offset are valid. -/
import Derived.Test.YtejeppjmlgfiaaaGreatHa33
import Derived.Test.YtejeppjmlgfiaaaGreatHa34
import Derived.Test.YtejeppjmlgfiaaaGreatHa17
import Derived.Deep.RegionHeld3
namespace Go.Proofs.YtejeppjmlgfiaaaGreat
open Go.RowKit
set_option linter.unusedVariables false

/-- The labels so far and the rows so far, in memory of the call's own. -/
structure ZP (w : World) (B : Nat) (u : Value) (l : List Int) (rv : Value) (vs : List Value) (rows : List (List Int)) : Prop where
  own : OwnI w B u l
  rs : OwnRs w B rv vs rows
  apt : ∀ y ∈ rv :: vs, Apt u y
section
variable {w w1 w2 : World} {B : Nat} {u rv v' : Value} {l l' : List Int} {vs : List Value} {rows : List (List Int)}
theorem ZP.below (h : ZP w B u l rv vs rows) (hb : Below w.heap.size w w1) : ZP w1 B u l rv vs rows := ⟨h.own.below hb, h.rs.below hb, h.apt⟩
theorem ZP.mono {B' : Nat} (h : ZP w B u l rv vs rows) (hB : B' ≤ B) : ZP w B' u l rv vs rows := ⟨h.own.mono hB, h.rs.mono hB, h.apt⟩
theorem ZP.appU (h : ZP w B u l rv vs rows) (ho : OwnI w1 B v' l') (hg : w.grownBy w1 u.ownBlock) (hfr : ∀ g, v'.ownBlock = some g → u.ownBlock = some g ∨ w.heap.size ≤ g) : ZP w1 B v' l' rv vs rows := by
  refine ⟨ho, h.rs.only (F := [u]) (Only.ofGrown hg (by simp)) (fun x hx y hy => ?_), fun y hy g hg' e => ?_⟩
  · simp at hx; subst hx; exact h.apt y hy
  · rcases hfr g hg' with h1 | h1
    · exact h.apt y hy g h1 e
    · have := (h.rs.bd y hy g e).2; omega
theorem ZP.rowR {u1 : Value} {r : List Int} (h : ZP w B u l rv vs rows) (hb : Below w.heap.size w w1) (hB : B ≤ w.heap.size) (hu : OwnI w1 w.heap.size u1 r)
    (ho : w2.ownsRow B 24 1 v' (rows.length + 1) (vs ++ [u1])) (hg : w1.grownBy w2 rv.ownBlock) (hfr : ∀ g, v'.ownBlock = some g → rv.ownBlock = some g ∨ w1.heap.size ≤ g) : ZP w2 B u l v' (vs ++ [u1]) (rows ++ [r]) := by
  have hs := hb.size
  refine ⟨(h.own.below hb).grown hg (fun g hg' e => h.apt rv (by simp) g hg' e.symm), h.rs.snoc hb hB hu ho hg hfr, fun y hy a e e' => ?_⟩
  have hlt := h.own.lt a e
  rcases List.mem_cons.1 hy with rfl | hy
  · rcases hfr a e' with h1 | h1
    · exact h.apt rv (by simp) a e h1
    · omega
  · rcases List.mem_append.1 hy with hy | hy
    · exact h.apt y (List.mem_cons_of_mem _ hy) a e e'
    · simp at hy; subst hy
      have := hu.ge a e'; omega
end
/-- The call returns the zero labels and the rows. -/
def RetZ (w : World) (s : Zr) (e : Ending) (w' : World) : Prop := ∃ u rv vs, e = .returned (.tuple #[u, rv]) ∧ ZP w' w.heap.size u s.zs rv vs s.rows ∧ Below w.heap.size w w'
theorem nil_ZP {w : World} {B : Nat} (hB : B ≤ w.heap.size) : ZP ((w.alloc (.cells #[] 3)).alloc (.cells #[] 24)) B (.slice (some ⟨w.heap.size, 0, none⟩) 0 0) [] (.slice (some ⟨w.heap.size + 1, 0, none⟩) 0 0) [] [] := by
  refine ⟨(OwnI.empty hB).alloc _, ?_, fun y hy g e e' => ?_⟩
  · have := OwnRs.empty (w := w.alloc (.cells #[] 3)) (B := B) (by simp; omega)
    simpa using this
  · simp at hy; subst hy
    simp [Value.ownBlock] at e e'
    omega
set_option maxRecDepth 100000 in
set_option maxHeartbeats 4000000 in
theorem c_zeros_garbledAnd {c : Cir} {gv ov : Value} {key off : Int} {q : Nat} {w : World} (h : CirIn w gv ov c) (hc : cirB c = true) (hk : 0 ≤ key ∧ key ≤ 1000000000) (ho : 0 ≤ off ∧ off ≤ 65535) (hq : w.cell? ⟨q, 0, none⟩ = some (.int .i64 off)) :
    Calls Tryz.prog 72 #[cirV c gv ov, .int .i64 key, .int .i64 off, .func (.func 144) #[] #[.pointer (some ⟨q, 0, none⟩)]] w (RetZ w (zrM (gbZ off) (gbR off) key off c.ins.toNat c.gs)) := by
  have hbd := cirB_bd hc
  have hgl : c.gs.length ≤ 300 := hbd.2.2.2.2.1
  have hins : 0 ≤ c.ins ∧ c.ins ≤ 40 := by unfold Cir.ins; omega
  have HGB := Lib.hid (cirB_gates hc)
  have HKB := Lib.hid (cirB_kinds hc)
  have HBD := Lib.hid (zr_bd (m := (gbR off 0 0 0).length) (F := gbZ off) (R := gbR off) ho (by first | exact fun w x y _ _ => gbZ_bd ho w x y | exact fun w x y hx _ => hgZ_bd ho hx w y) (by first | exact fun w x y _ _ => gbR_bd ho w x y | exact fun w x y hx _ => hgR_bd ho hx w y) key c.ins.toNat)
  have hi4 : 0 ≤ c.i0 ∧ c.i0 ≤ 20 ∧ 0 ≤ c.i1 ∧ c.i1 ≤ 20 := by omega
  have H := Lib.hid h
  have hql : q < w.heap.size := World.block_lt_of_cell? _ _ hq
  have QC := Lib.hid hq
  obtain ⟨hg, hoo⟩ := h
  obtain ⟨A, cg, rfl, hlg, hmg, hrg⟩ := hg
  obtain ⟨A', co, rfl, -⟩ := hoo
  have HRG := Lib.hid hrg
  unfold maxLen at hmg
  clear hc hbd hrg hq
  unfold cirV
  obtain ⟨w0, hw0⟩ : ∃ W, ((w.alloc (.cells #[.int .i64 c.i0, .int .i64 c.i1, .slice A c.gs.length cg, .slice A' c.outs.length co] 26)).alloc (.cells #[] 3)).alloc (.cells #[] 24) = W := ⟨_, rfl⟩
  have HZ0 : Hid (ZP w0 (w.heap.size + 1) (.slice (some ⟨w.heap.size + 1, 0, none⟩) 0 0) [] (.slice (some ⟨w.heap.size + 2, 0, none⟩) 0 0) [] []) := by
    rw [← hw0]
    have := nil_ZP (w := w.alloc (.cells #[.int .i64 c.i0, .int .i64 c.i1, .slice A c.gs.length cg, .slice A' c.outs.length co] 26)) (B := w.heap.size + 1) (by simp)
    simp only [World.size_alloc] at this
    exact this
  have HKC : Hid (Blk w0 w.heap.size 26 #[.int .i64 c.i0, .int .i64 c.i1, .slice A c.gs.length cg, .slice A' c.outs.length co]) := by rw [← hw0]; exact ((Blk.new _ _ _).alloc _).alloc _
  have HB : Hid (Below w.heap.size w w0) := by rw [← hw0]; exact (((Below.refl w.heap.size w).alloc (Nat.le_refl _) _).alloc (by simp) _).alloc (by simp; omega) _
  have hz0 : w.heap.size + 3 ≤ w0.heap.size := by rw [← hw0]; simp
  have x0 : w0.cell? ⟨w.heap.size, 0, none⟩ = some (.int .i64 c.i0) := HKC.out.cell 0
  have x1 : w0.cell? ⟨w.heap.size, 1, none⟩ = some (.int .i64 c.i1) := HKC.out.cell 1
  have x2 : w0.cell? ⟨w.heap.size, 2, none⟩ = some (.slice A c.gs.length cg) := HKC.out.cell 2
  have x3 : w0.cell? ⟨w.heap.size, 3, none⟩ = some (.slice A' c.outs.length co) := HKC.out.cell 3
  go_enter Tryz.func72, Tryz.ntmps72
  go_wp2_with fail
  clear hw0 x0 x1 x2 x3
  refine (c_C_inputs (H.out.below HB.out) hi4).mono ?_
  rintro e w1 ⟨rfl, hb1⟩
  replace HZ0 := Lib.hid (HZ0.out.below hb1)
  replace HKC := Lib.hid (HKC.out.step hb1)
  replace HB := Lib.hid (below_step HB.out hb1)
  have hz1 := Nat.le_trans hz0 hb1.size
  clear hb1 hz0
  obtain ⟨N, hN⟩ : ∃ N : Nat, c.ins = (N : Int) := ⟨c.ins.toNat, by omega⟩
  have hN2 : c.ins.toNat = N := by omega
  rw [hN2] at HBD ⊢
  have HN := Lib.hid hN
  go_wp2
  go_loopw [10, 22] (fun u i wr => ∃ k : Nat, k ≤ N ∧ i = .int .i64 k ∧ Hid (ZP wr (w.heap.size + 1) u (zIns key k) (.slice (some ⟨w.heap.size + 2, 0, none⟩) 0 0) [] []) ∧ Hid (Below w.heap.size w wr) ∧ w.heap.size + 3 ≤ wr.heap.size ∧ Hid (Blk wr w.heap.size 26 #[.int .i64 c.i0, .int .i64 c.i1, .slice A c.gs.length cg, .slice A' c.outs.length co])) (fun _ i _ => N - (intOf i).toNat)
  case atStart => exact ⟨0, Nat.zero_le _, rfl, HZ0, HB, hz1, HKC⟩
  case round =>
    obtain ⟨k, hk2, rfl, HZ, HB, hzr, HKC⟩ := hrel
    clear HZ0
    by_cases hlt : k < N
    · go_wp2_with fail
      refine (c_impl_zeroLabel (by omega) (by omega)).mono ?_
      rintro e w2 ⟨rfl, hb2⟩
      have hdb := digM_bd [key, (k : Int), 13, 0]
      have HS := Lib.hid (zIns_snoc key k)
      generalize digM [key, (k : Int), 13, 0] = z at *
      have HZ2 := Lib.hid (HZ.out.below hb2)
      have HB2 := Lib.hid (below_step HB.out hb2)
      have HKC2 := Lib.hid (HKC.out.step hb2)
      have hz2 := Nat.le_trans hzr hb2.size
      have hlen : (zIns key k).length ≤ 40 := by rw [zIns_length]; omega
      clear hb2 HZ HB HKC
      go_wp2_with (at_builtin; refine wp_app1 (B := w.heap.size + 1) rfl rfl Tryz.underlying24 info_int rfl HZ2.out.own rfl rfl rfl (by unfold maxLen; omega) (by omega) (Nat.le_trans (Nat.le_add_right _ 2) hz2) ?_; intro v' w9 ho hg hfr)
      have HZn := Lib.hid (HZ2.out.appU (OwnI.snoc ho) hg hfr)
      have HBn := Lib.hid (below_app HB2.out (own_mono HZ2.out.own (Nat.le_add_right _ 1)) hg (Nat.le_refl _))
      have HKn := Lib.hid (HKC2.out.grown hg (fun e => by have := HZ2.out.own.ge _ e.symm; omega))
      have hzn := Nat.le_trans hz2 hg.size
      go_roundw
      case rel => exact ⟨k + 1, by omega, by go_num, by rw [HS.out]; exact HZn, HBn, hzn, HKn⟩
      case measure => simp [intOf]; omega
    · obtain rfl : k = N := by omega
      obtain ⟨wa, rfl⟩ : ∃ W, W = wr := ⟨wr, rfl⟩
      have x2 : wa.cell? ⟨w.heap.size, 2, none⟩ = some (.slice A c.gs.length cg) := HKC.out.cell 2
      have HZ1 := HZ
      have HB1 := HB
      clear HKC HZ HB
      go_wp2
      clear x2
      go_loopw [10, 11, 35] (fun u rv i wr => ∃ (j : Nat) (vs : List Value), j ≤ c.gs.length ∧ i = .int .i64 j ∧ Hid (ZP wr (w.heap.size + 1) u (zrM (gbZ off) (gbR off) key off k (c.gs.take j)).zs rv vs (zrM (gbZ off) (gbR off) key off k (c.gs.take j)).rows) ∧ Hid (Below w.heap.size w wr) ∧ w.heap.size + 3 ≤ wr.heap.size) (fun _ _ i _ => c.gs.length - (intOf i).toNat)
      case atStart => exact ⟨0, [], Nat.zero_le _, rfl, HZ1, HB1, hzr⟩
      case round =>
        obtain ⟨j, vs, hj, rfl, HZ, HB, hzw⟩ := hrel
        clear HZ1 HB1
        by_cases hjl : j < c.gs.length
        · obtain ⟨b, o, g, rfl, hbl, hgk, c0, c1', c2'⟩ := (HRG.out.below HB.out).gate_at hjl
          have hgb := gate_ab (gatesB_at _ _ j g HGB.out hgk)
          obtain ⟨i1, i2, i3⟩ := zr_inv (F := gbZ off) (R := gbR off) (key := key) (off := off) (n := k) HKB.out j (by omega)
          have HS := Lib.hid (zr_snoc (F := gbZ off) (R := gbR off) (key := key) (off := off) (n := k) hgk)
          obtain ⟨hbs, hbr, -⟩ := HBD.out (c.gs.take j)
          have hcl1 := cnt_le 1 c.gs j
          have hcb1 := cnt_bd 1 c.gs
          generalize hs : zrM (gbZ off) (gbR off) key off k (c.gs.take j) = s at *
          clear hs hgk
          obtain ⟨gk, ga, gb⟩ := g
          obtain ⟨l, rows, ones⟩ := s
          simp only at c0 c1' c2' hgb i1 i2 i3 hbs hbr HZ
          obtain ⟨Au, cu, rfl, hlu, hmu, hru⟩ := own_form HZ.out.own
          unfold maxLen at hmu
          have hll : (l.length : Int) = k + j := by omega
          have hl340 : l.length ≤ 340 := by have := HN.out; omega
          have hrl : rows.length ≤ 300 := by omega
          have HLL := Lib.hid hll
          have HBS := Lib.hid hbs
          have HRU := Lib.hid hru
          have HNN := HN.out
          rw [HNN] at hgb
          obtain ⟨wb, hwb⟩ : ∃ W, wr.alloc (.cells #[.int .i64 gk, .int .i64 ga, .int .i64 gb] 117) = W := ⟨_, rfl⟩
          have hbb : Below wr.heap.size wr wb := by rw [← hwb]; exact (Below.refl _ _).alloc (Nat.le_refl _) _
          have HBX : Hid (Blk wb wr.heap.size 117 #[.int .i64 gk, .int .i64 ga, .int .i64 gb]) := by rw [← hwb]; exact Blk.new _ _ _
          have y0 : wb.cell? ⟨wr.heap.size, 0, none⟩ = some (.int .i64 gk) := HBX.out.cell 0
          have y1 : wb.cell? ⟨wr.heap.size, 1, none⟩ = some (.int .i64 ga) := HBX.out.cell 1
          have y2 : wb.cell? ⟨wr.heap.size, 2, none⟩ = some (.int .i64 gb) := HBX.out.cell 2
          have HBB := Lib.hid hbb
          have HB2 := Lib.hid (below_step HB.out hbb)
          have HZ2 := Lib.hid (HZ.out.below hbb)
          have hsz3 : w.heap.size + 3 ≤ wb.heap.size := Nat.le_trans hzw HBB.out.size
          have hsz : w.heap.size + 1 ≤ wb.heap.size := by omega
          clear hbb hll hbs hru HB HZ hlu hmu HNN hcl1 hcb1 i2 i3 hbr hlt hN hN2
          have hkk : gk = 0 ∨ gk = 1 ∨ gk = 2 ∨ gk = 3 := by omega
          rcases hkk with rfl | rfl | rfl | rfl
          · -- exclusive-or
            have hab := hgb.2.1 (Or.inl rfl)
            obtain ⟨ja, rfl, hja, hea⟩ := elt_at (l := l) hab.1 (by have := HLL.out; omega)
            obtain ⟨jb, rfl, hjb, heb⟩ := elt_at (l := l) hab.2.2.1 (by have := HLL.out; omega)
            obtain ⟨bo, oo, xa, rfl, hbo, hxa, hca⟩ := (HRU.out.below HBB.out).int_at hja
            obtain ⟨bo2, oo2, xb, e2, hbo2, hxb, hcb⟩ := (HRU.out.below HBB.out).int_at hjb
            injection e2 with e2; injection e2 with e2 e2'; subst e2 e2'
            have exa := hea.symm.trans hxa
            have exb := heb.symm.trans hxb
            injection exa with exa
            injection exb with exb
            have ba := elt_bd (k := (ja : Int)) HBS.out
            have bb := elt_bd (k := (jb : Int)) HBS.out
            rw [exa] at ba
            rw [exb] at bb
            have hxor := bits_xor ba.1 bb.1 (by omega) (by omega)
            have HW := Lib.hid (show zStep (gbZ off) (gbR off) key off ⟨l, rows, ones⟩ ⟨0, (ja : Int), (jb : Int)⟩ = ⟨l ++ [xorI xa xb], rows, ones⟩ by unfold zStep; simp only [if_true]; rw [exa, exb])
            clear hgb hea heb hxa hxb exa exb hab i1
            have hja0 : (0 : Int) ≤ (ja : Int) := Int.natCast_nonneg _
            have hja1 : (ja : Int) < (l.length : Int) := by omega
            have hjb0 : (0 : Int) ≤ (jb : Int) := Int.natCast_nonneg _
            have hjb1 : (jb : Int) < (l.length : Int) := by omega
            go_wp2_with fail
            go_region_held3 (fun w' => w'.cell? ⟨wr.heap.size, 1, none⟩ = some (.int .i64 (ja : Int)) ∧ w'.cell? ⟨wr.heap.size, 2, none⟩ = some (.int .i64 (jb : Int)) ∧ w'.cell? ⟨bo, oo + ja, none⟩ = some (.int .i64 xa) ∧ w'.cell? ⟨bo, oo + jb, none⟩ = some (.int .i64 xb)) (exact ⟨y1, y2, hca, hcb⟩) (fail)
            have HZ3 := Lib.hid (HZ2.out.below ((Below.refl wb.heap.size wb).drew))
            go_wp2_with (at_builtin; refine wp_app1 (B := w.heap.size + 1) rfl rfl Tryz.underlying24 info_int rfl HZ3.out.own rfl rfl rfl (by unfold maxLen; omega) (by omega) hsz ?_; intro v' w9 ho hg hfr)
            have HZn := Lib.hid (HZ3.out.appU (OwnI.snoc ho) hg hfr)
            have HBn := Lib.hid (below_app HB2.out.drew (own_mono HZ3.out.own (Nat.le_add_right _ 1)) hg (Nat.le_refl _))
            have hzn : w.heap.size + 3 ≤ w9.heap.size := Nat.le_trans hsz3 hg.size
            go_roundw
            case rel => exact ⟨j + 1, vs, by omega, by go_num, by rw [HS.out, HW.out]; exact HZn, HBn, hzn⟩
            case measure => simp [intOf]; omega
          · -- and
            have hab := hgb.2.1 (Or.inr rfl)
            obtain ⟨ja, rfl, hja, hea⟩ := elt_at (l := l) hab.1 (by have := HLL.out; omega)
            obtain ⟨jb, rfl, hjb, heb⟩ := elt_at (l := l) hab.2.2.1 (by have := HLL.out; omega)
            obtain ⟨bo, oo, xa, rfl, hbo, hxa, hca⟩ := (HRU.out.below HBB.out).int_at hja
            obtain ⟨bo2, oo2, xb, e2, hbo2, hxb, hcb⟩ := (HRU.out.below HBB.out).int_at hjb
            injection e2 with e2; injection e2 with e2 e2'; subst e2 e2'
            have exa := hea.symm.trans hxa
            have exb := heb.symm.trans hxb
            injection exa with exa
            injection exb with exb
            have ba := elt_bd (k := (ja : Int)) HBS.out
            have bb := elt_bd (k := (jb : Int)) HBS.out
            rw [exa] at ba
            rw [exb] at bb
            have HW := Lib.hid (show zStep (gbZ off) (gbR off) key off ⟨l, rows, ones⟩ ⟨1, (ja : Int), (jb : Int)⟩ = ⟨l ++ [gbZ off (l.length : Int) xa xb], rows ++ [gbR off (l.length : Int) xa xb], ones⟩ by unfold zStep; simp only [Int.reduceEq, if_false]; rw [exa, exb])
            have qq := belowCell ((HB2.out.cell (p := ⟨q, 0, none⟩) hql).trans QC.out)
            have q1 := belowCell y1
            have q2 := belowCell y2
            have q3 := belowCell hca
            have q4 := belowCell hcb
            clear hgb hea heb hxa hxb exa exb hab i1 y1 y2 hca hcb
            have hja0 : (0 : Int) ≤ (ja : Int) := Int.natCast_nonneg _
            have hja1 : (ja : Int) < (l.length : Int) := by omega
            have hjb0 : (0 : Int) ≤ (jb : Int) := Int.natCast_nonneg _
            have hjb1 : (jb : Int) < (l.length : Int) := by omega
            go_wp2_with fail
            go_region_held3 (fun w' => Below wb.heap.size wb w')
              (first | (refine below_step ?_ HD.out; assumption) | (exact (Below.refl _ _).drew))
              (first
                | (go_at_call 144; refine (c_garbledAnd1 (qq _ (by assumption)) ho (by omega) ba bb).mono ?_; rintro e wz ⟨u1, rfl, hu1, hb⟩; obtain ⟨A1, k1, rfl, -⟩ := hu1.ints; replace hu1 := Lib.hid (hu1.mono (Below.size (B := wb.heap.size) (w := wb) (by assumption))); have HD := Lib.hid hb))
            have hE : Below wb.heap.size wb wz := by assumption
            have HEE := Lib.hid hE
            have hszz := Nat.le_trans hsz hE.size
            have hszz3 := Nat.le_trans hsz3 hE.size
            have HB3 := Lib.hid (below_step HB2.out hE)
            have HZ3 := Lib.hid (HZ2.out.below hE)
            clear hE q1 q2 q3 q4 qq
            generalize gbZ off (l.length : Int) xa xb = zz at *
            generalize gbR off (l.length : Int) xa xb = rr at *
            have hlr := HZ3.out.rs.len
            go_wp2_with (at_builtin; first
              | (refine wp_app1 (B := w.heap.size + 1) rfl rfl Tryz.underlying33 info_ints rfl HZ3.out.rs.outer rfl rfl rfl (by unfold maxLen; omega) (by omega) hszz ?_; intro v' w8 ho8 hg8 hfr8; have HZ4 := Lib.hid (HZ2.out.rowR HEE.out hsz hu1.out ho8 hg8 hfr8); have HB4 := Lib.hid (below_app HB3.out (own_mono HZ3.out.rs.outer (Nat.le_add_right _ 1)) hg8 (Nat.le_refl _)); have hsz8 := Nat.le_trans hszz3 hg8.size; clear ho8 hg8 hfr8)
              | (refine wp_app1 (B := w.heap.size + 1) rfl rfl Tryz.underlying24 info_int rfl HZ4.out.own rfl rfl rfl (by unfold maxLen; omega) (by omega) (by omega) ?_; intro v9 w9 ho hg hfr))
            have HZn := Lib.hid (HZ4.out.appU (OwnI.snoc ho) hg hfr)
            have HBn := Lib.hid (below_app HB4.out (own_mono HZ4.out.own (Nat.le_add_right _ 1)) hg (Nat.le_refl _))
            have hzn : w.heap.size + 3 ≤ w9.heap.size := Nat.le_trans hsz8 hg.size
            go_roundw
            case rel => exact ⟨j + 1, _, by omega, by go_num, by rw [HS.out, HW.out]; exact HZn, HBn, hzn⟩
            case measure => simp [intOf]; omega
          · -- not
            have hab := hgb.2.2 rfl
            obtain ⟨ja, rfl, hja, hea⟩ := elt_at (l := l) hab.1 (by have := HLL.out; omega)
            obtain ⟨bo, oo, xa, rfl, hbo, hxa, hca⟩ := (HRU.out.below HBB.out).int_at hja
            have exa := hea.symm.trans hxa
            injection exa with exa
            have ba := elt_bd (k := (ja : Int)) HBS.out
            rw [exa] at ba
            have hxor := bits_xor ba.1 ho.1 (by omega) (by omega)
            have HW := Lib.hid (show zStep (gbZ off) (gbR off) key off ⟨l, rows, ones⟩ ⟨2, (ja : Int), gb⟩ = ⟨l ++ [xorI xa off], rows, ones⟩ by unfold zStep; simp only [Int.reduceEq, if_false, if_true]; rw [exa])
            clear hgb hea hxa exa hab i1
            have hja0 : (0 : Int) ≤ (ja : Int) := Int.natCast_nonneg _
            have hja1 : (ja : Int) < (l.length : Int) := by omega
            go_wp2_with (at_builtin; refine wp_app1 (B := w.heap.size + 1) rfl rfl Tryz.underlying24 info_int rfl HZ2.out.own rfl rfl rfl (by unfold maxLen; omega) (by omega) hsz ?_; intro v' w9 ho hg hfr)
            have HZn := Lib.hid (HZ2.out.appU (OwnI.snoc ho) hg hfr)
            have HBn := Lib.hid (below_app HB2.out (own_mono HZ2.out.own (Nat.le_add_right _ 1)) hg (Nat.le_refl _))
            have hzn : w.heap.size + 3 ≤ w9.heap.size := Nat.le_trans hsz3 hg.size
            go_roundw
            case rel => exact ⟨j + 1, vs, by omega, by go_num, by rw [HS.out, HW.out]; exact HZn, HBn, hzn⟩
            case measure => simp [intOf]; omega
          · -- one
            have HW := Lib.hid (show zStep (gbZ off) (gbR off) key off ⟨l, rows, ones⟩ ⟨3, ga, gb⟩ = ⟨l ++ [digM [key, (l.length : Int), 13, 0]], rows, ones ++ [xorI (digM [key, (l.length : Int), 13, 0]) off]⟩ by unfold zStep; simp only [Int.reduceEq, if_false, if_true])
            have HC := Lib.hid (fun W => c_impl_zeroLabel (w := W) (k := key) (n := (l.length : Int)) (by omega) (by omega))
            generalize digM [key, (l.length : Int), 13, 0] = z at *
            clear hgb i1
            go_wp2_with fail
            refine (HC.out _).mono ?_
            rintro e w2 ⟨rfl, hb2⟩
            have HZ3 := Lib.hid (HZ2.out.below hb2)
            have HB3 := Lib.hid (below_step HB2.out hb2)
            have hsz8 := Nat.le_trans hsz3 hb2.size
            clear hb2 HC
            go_wp2_with (at_builtin; refine wp_app1 (B := w.heap.size + 1) rfl rfl Tryz.underlying24 info_int rfl HZ3.out.own rfl rfl rfl (by unfold maxLen; omega) (by omega) (by omega) ?_; intro v' w9 ho hg hfr)
            have HZn := Lib.hid (HZ3.out.appU (OwnI.snoc ho) hg hfr)
            have HBn := Lib.hid (below_app HB3.out (own_mono HZ3.out.own (Nat.le_add_right _ 1)) hg (Nat.le_refl _))
            have hzn : w.heap.size + 3 ≤ w9.heap.size := Nat.le_trans hsz8 hg.size
            go_roundw
            case rel => exact ⟨j + 1, vs, by omega, by go_num, by rw [HS.out, HW.out]; exact HZn, HBn, hzn⟩
            case measure => simp [intOf]; omega
        · obtain rfl : j = c.gs.length := by omega
          have HE := Lib.hid (show c.gs.take c.gs.length = c.gs from List.take_of_length_le (Nat.le_refl _))
          have HZ3 := Lib.hid (show ZP wr (w.heap.size + 1) _ (zrM (gbZ off) (gbR off) key off k c.gs).zs _ vs (zrM (gbZ off) (gbR off) key off k c.gs).rows by have := HZ.out; rw [HE.out] at this; exact this)
          clear HZ HE
          go_wp2
          go_ret2
          rw [show c.ins.toNat = k by have := HN.out; omega]
          exact ⟨_, _, vs, rfl, HZ3.out.mono (Nat.le_add_right _ 1), HB.out⟩
set_option maxRecDepth 100000 in
set_option maxHeartbeats 4000000 in
theorem c_zeros_halvedAnd {c : Cir} {gv ov : Value} {key off : Int} {q : Nat} {w : World} (h : CirIn w gv ov c) (hc : cirB c = true) (hk : 0 ≤ key ∧ key ≤ 1000000000) (ho : 0 ≤ off ∧ off ≤ 65535) (hq : w.cell? ⟨q, 0, none⟩ = some (.int .i64 off)) :
    Calls Tryz.prog 72 #[cirV c gv ov, .int .i64 key, .int .i64 off, .func (.func 126) #[] #[.pointer (some ⟨q, 0, none⟩)]] w (RetZ w (zrM (hgZ off) (hgR off) key off c.ins.toNat c.gs)) := by
  have hbd := cirB_bd hc
  have hgl : c.gs.length ≤ 300 := hbd.2.2.2.2.1
  have hins : 0 ≤ c.ins ∧ c.ins ≤ 40 := by unfold Cir.ins; omega
  have HGB := Lib.hid (cirB_gates hc)
  have HKB := Lib.hid (cirB_kinds hc)
  have HBD := Lib.hid (zr_bd (m := (hgR off 0 0 0).length) (F := hgZ off) (R := hgR off) ho (by first | exact fun w x y _ _ => gbZ_bd ho w x y | exact fun w x y hx _ => hgZ_bd ho hx w y) (by first | exact fun w x y _ _ => gbR_bd ho w x y | exact fun w x y hx _ => hgR_bd ho hx w y) key c.ins.toNat)
  have hi4 : 0 ≤ c.i0 ∧ c.i0 ≤ 20 ∧ 0 ≤ c.i1 ∧ c.i1 ≤ 20 := by omega
  have H := Lib.hid h
  have hql : q < w.heap.size := World.block_lt_of_cell? _ _ hq
  have QC := Lib.hid hq
  obtain ⟨hg, hoo⟩ := h
  obtain ⟨A, cg, rfl, hlg, hmg, hrg⟩ := hg
  obtain ⟨A', co, rfl, -⟩ := hoo
  have HRG := Lib.hid hrg
  unfold maxLen at hmg
  clear hc hbd hrg hq
  unfold cirV
  obtain ⟨w0, hw0⟩ : ∃ W, ((w.alloc (.cells #[.int .i64 c.i0, .int .i64 c.i1, .slice A c.gs.length cg, .slice A' c.outs.length co] 26)).alloc (.cells #[] 3)).alloc (.cells #[] 24) = W := ⟨_, rfl⟩
  have HZ0 : Hid (ZP w0 (w.heap.size + 1) (.slice (some ⟨w.heap.size + 1, 0, none⟩) 0 0) [] (.slice (some ⟨w.heap.size + 2, 0, none⟩) 0 0) [] []) := by
    rw [← hw0]
    have := nil_ZP (w := w.alloc (.cells #[.int .i64 c.i0, .int .i64 c.i1, .slice A c.gs.length cg, .slice A' c.outs.length co] 26)) (B := w.heap.size + 1) (by simp)
    simp only [World.size_alloc] at this
    exact this
  have HKC : Hid (Blk w0 w.heap.size 26 #[.int .i64 c.i0, .int .i64 c.i1, .slice A c.gs.length cg, .slice A' c.outs.length co]) := by rw [← hw0]; exact ((Blk.new _ _ _).alloc _).alloc _
  have HB : Hid (Below w.heap.size w w0) := by rw [← hw0]; exact (((Below.refl w.heap.size w).alloc (Nat.le_refl _) _).alloc (by simp) _).alloc (by simp; omega) _
  have hz0 : w.heap.size + 3 ≤ w0.heap.size := by rw [← hw0]; simp
  have x0 : w0.cell? ⟨w.heap.size, 0, none⟩ = some (.int .i64 c.i0) := HKC.out.cell 0
  have x1 : w0.cell? ⟨w.heap.size, 1, none⟩ = some (.int .i64 c.i1) := HKC.out.cell 1
  have x2 : w0.cell? ⟨w.heap.size, 2, none⟩ = some (.slice A c.gs.length cg) := HKC.out.cell 2
  have x3 : w0.cell? ⟨w.heap.size, 3, none⟩ = some (.slice A' c.outs.length co) := HKC.out.cell 3
  go_enter Tryz.func72, Tryz.ntmps72
  go_wp2_with fail
  clear hw0 x0 x1 x2 x3
  refine (c_C_inputs (H.out.below HB.out) hi4).mono ?_
  rintro e w1 ⟨rfl, hb1⟩
  replace HZ0 := Lib.hid (HZ0.out.below hb1)
  replace HKC := Lib.hid (HKC.out.step hb1)
  replace HB := Lib.hid (below_step HB.out hb1)
  have hz1 := Nat.le_trans hz0 hb1.size
  clear hb1 hz0
  obtain ⟨N, hN⟩ : ∃ N : Nat, c.ins = (N : Int) := ⟨c.ins.toNat, by omega⟩
  have hN2 : c.ins.toNat = N := by omega
  rw [hN2] at HBD ⊢
  have HN := Lib.hid hN
  go_wp2
  go_loopw [10, 22] (fun u i wr => ∃ k : Nat, k ≤ N ∧ i = .int .i64 k ∧ Hid (ZP wr (w.heap.size + 1) u (zIns key k) (.slice (some ⟨w.heap.size + 2, 0, none⟩) 0 0) [] []) ∧ Hid (Below w.heap.size w wr) ∧ w.heap.size + 3 ≤ wr.heap.size ∧ Hid (Blk wr w.heap.size 26 #[.int .i64 c.i0, .int .i64 c.i1, .slice A c.gs.length cg, .slice A' c.outs.length co])) (fun _ i _ => N - (intOf i).toNat)
  case atStart => exact ⟨0, Nat.zero_le _, rfl, HZ0, HB, hz1, HKC⟩
  case round =>
    obtain ⟨k, hk2, rfl, HZ, HB, hzr, HKC⟩ := hrel
    clear HZ0
    by_cases hlt : k < N
    · go_wp2_with fail
      refine (c_impl_zeroLabel (by omega) (by omega)).mono ?_
      rintro e w2 ⟨rfl, hb2⟩
      have hdb := digM_bd [key, (k : Int), 13, 0]
      have HS := Lib.hid (zIns_snoc key k)
      generalize digM [key, (k : Int), 13, 0] = z at *
      have HZ2 := Lib.hid (HZ.out.below hb2)
      have HB2 := Lib.hid (below_step HB.out hb2)
      have HKC2 := Lib.hid (HKC.out.step hb2)
      have hz2 := Nat.le_trans hzr hb2.size
      have hlen : (zIns key k).length ≤ 40 := by rw [zIns_length]; omega
      clear hb2 HZ HB HKC
      go_wp2_with (at_builtin; refine wp_app1 (B := w.heap.size + 1) rfl rfl Tryz.underlying24 info_int rfl HZ2.out.own rfl rfl rfl (by unfold maxLen; omega) (by omega) (Nat.le_trans (Nat.le_add_right _ 2) hz2) ?_; intro v' w9 ho hg hfr)
      have HZn := Lib.hid (HZ2.out.appU (OwnI.snoc ho) hg hfr)
      have HBn := Lib.hid (below_app HB2.out (own_mono HZ2.out.own (Nat.le_add_right _ 1)) hg (Nat.le_refl _))
      have HKn := Lib.hid (HKC2.out.grown hg (fun e => by have := HZ2.out.own.ge _ e.symm; omega))
      have hzn := Nat.le_trans hz2 hg.size
      go_roundw
      case rel => exact ⟨k + 1, by omega, by go_num, by rw [HS.out]; exact HZn, HBn, hzn, HKn⟩
      case measure => simp [intOf]; omega
    · obtain rfl : k = N := by omega
      obtain ⟨wa, rfl⟩ : ∃ W, W = wr := ⟨wr, rfl⟩
      have x2 : wa.cell? ⟨w.heap.size, 2, none⟩ = some (.slice A c.gs.length cg) := HKC.out.cell 2
      have HZ1 := HZ
      have HB1 := HB
      clear HKC HZ HB
      go_wp2
      clear x2
      go_loopw [10, 11, 35] (fun u rv i wr => ∃ (j : Nat) (vs : List Value), j ≤ c.gs.length ∧ i = .int .i64 j ∧ Hid (ZP wr (w.heap.size + 1) u (zrM (hgZ off) (hgR off) key off k (c.gs.take j)).zs rv vs (zrM (hgZ off) (hgR off) key off k (c.gs.take j)).rows) ∧ Hid (Below w.heap.size w wr) ∧ w.heap.size + 3 ≤ wr.heap.size) (fun _ _ i _ => c.gs.length - (intOf i).toNat)
      case atStart => exact ⟨0, [], Nat.zero_le _, rfl, HZ1, HB1, hzr⟩
      case round =>
        obtain ⟨j, vs, hj, rfl, HZ, HB, hzw⟩ := hrel
        clear HZ1 HB1
        by_cases hjl : j < c.gs.length
        · obtain ⟨b, o, g, rfl, hbl, hgk, c0, c1', c2'⟩ := (HRG.out.below HB.out).gate_at hjl
          have hgb := gate_ab (gatesB_at _ _ j g HGB.out hgk)
          obtain ⟨i1, i2, i3⟩ := zr_inv (F := hgZ off) (R := hgR off) (key := key) (off := off) (n := k) HKB.out j (by omega)
          have HS := Lib.hid (zr_snoc (F := hgZ off) (R := hgR off) (key := key) (off := off) (n := k) hgk)
          obtain ⟨hbs, hbr, -⟩ := HBD.out (c.gs.take j)
          have hcl1 := cnt_le 1 c.gs j
          have hcb1 := cnt_bd 1 c.gs
          generalize hs : zrM (hgZ off) (hgR off) key off k (c.gs.take j) = s at *
          clear hs hgk
          obtain ⟨gk, ga, gb⟩ := g
          obtain ⟨l, rows, ones⟩ := s
          simp only at c0 c1' c2' hgb i1 i2 i3 hbs hbr HZ
          obtain ⟨Au, cu, rfl, hlu, hmu, hru⟩ := own_form HZ.out.own
          unfold maxLen at hmu
          have hll : (l.length : Int) = k + j := by omega
          have hl340 : l.length ≤ 340 := by have := HN.out; omega
          have hrl : rows.length ≤ 300 := by omega
          have HLL := Lib.hid hll
          have HBS := Lib.hid hbs
          have HRU := Lib.hid hru
          have HNN := HN.out
          rw [HNN] at hgb
          obtain ⟨wb, hwb⟩ : ∃ W, wr.alloc (.cells #[.int .i64 gk, .int .i64 ga, .int .i64 gb] 117) = W := ⟨_, rfl⟩
          have hbb : Below wr.heap.size wr wb := by rw [← hwb]; exact (Below.refl _ _).alloc (Nat.le_refl _) _
          have HBX : Hid (Blk wb wr.heap.size 117 #[.int .i64 gk, .int .i64 ga, .int .i64 gb]) := by rw [← hwb]; exact Blk.new _ _ _
          have y0 : wb.cell? ⟨wr.heap.size, 0, none⟩ = some (.int .i64 gk) := HBX.out.cell 0
          have y1 : wb.cell? ⟨wr.heap.size, 1, none⟩ = some (.int .i64 ga) := HBX.out.cell 1
          have y2 : wb.cell? ⟨wr.heap.size, 2, none⟩ = some (.int .i64 gb) := HBX.out.cell 2
          have HBB := Lib.hid hbb
          have HB2 := Lib.hid (below_step HB.out hbb)
          have HZ2 := Lib.hid (HZ.out.below hbb)
          have hsz3 : w.heap.size + 3 ≤ wb.heap.size := Nat.le_trans hzw HBB.out.size
          have hsz : w.heap.size + 1 ≤ wb.heap.size := by omega
          clear hbb hll hbs hru HB HZ hlu hmu HNN hcl1 hcb1 i2 i3 hbr hlt hN hN2
          have hkk : gk = 0 ∨ gk = 1 ∨ gk = 2 ∨ gk = 3 := by omega
          rcases hkk with rfl | rfl | rfl | rfl
          · -- exclusive-or
            have hab := hgb.2.1 (Or.inl rfl)
            obtain ⟨ja, rfl, hja, hea⟩ := elt_at (l := l) hab.1 (by have := HLL.out; omega)
            obtain ⟨jb, rfl, hjb, heb⟩ := elt_at (l := l) hab.2.2.1 (by have := HLL.out; omega)
            obtain ⟨bo, oo, xa, rfl, hbo, hxa, hca⟩ := (HRU.out.below HBB.out).int_at hja
            obtain ⟨bo2, oo2, xb, e2, hbo2, hxb, hcb⟩ := (HRU.out.below HBB.out).int_at hjb
            injection e2 with e2; injection e2 with e2 e2'; subst e2 e2'
            have exa := hea.symm.trans hxa
            have exb := heb.symm.trans hxb
            injection exa with exa
            injection exb with exb
            have ba := elt_bd (k := (ja : Int)) HBS.out
            have bb := elt_bd (k := (jb : Int)) HBS.out
            rw [exa] at ba
            rw [exb] at bb
            have hxor := bits_xor ba.1 bb.1 (by omega) (by omega)
            have HW := Lib.hid (show zStep (hgZ off) (hgR off) key off ⟨l, rows, ones⟩ ⟨0, (ja : Int), (jb : Int)⟩ = ⟨l ++ [xorI xa xb], rows, ones⟩ by unfold zStep; simp only [if_true]; rw [exa, exb])
            clear hgb hea heb hxa hxb exa exb hab i1
            have hja0 : (0 : Int) ≤ (ja : Int) := Int.natCast_nonneg _
            have hja1 : (ja : Int) < (l.length : Int) := by omega
            have hjb0 : (0 : Int) ≤ (jb : Int) := Int.natCast_nonneg _
            have hjb1 : (jb : Int) < (l.length : Int) := by omega
            go_wp2_with fail
            go_region_held3 (fun w' => w'.cell? ⟨wr.heap.size, 1, none⟩ = some (.int .i64 (ja : Int)) ∧ w'.cell? ⟨wr.heap.size, 2, none⟩ = some (.int .i64 (jb : Int)) ∧ w'.cell? ⟨bo, oo + ja, none⟩ = some (.int .i64 xa) ∧ w'.cell? ⟨bo, oo + jb, none⟩ = some (.int .i64 xb)) (exact ⟨y1, y2, hca, hcb⟩) (fail)
            have HZ3 := Lib.hid (HZ2.out.below ((Below.refl wb.heap.size wb).drew))
            go_wp2_with (at_builtin; refine wp_app1 (B := w.heap.size + 1) rfl rfl Tryz.underlying24 info_int rfl HZ3.out.own rfl rfl rfl (by unfold maxLen; omega) (by omega) hsz ?_; intro v' w9 ho hg hfr)
            have HZn := Lib.hid (HZ3.out.appU (OwnI.snoc ho) hg hfr)
            have HBn := Lib.hid (below_app HB2.out.drew (own_mono HZ3.out.own (Nat.le_add_right _ 1)) hg (Nat.le_refl _))
            have hzn : w.heap.size + 3 ≤ w9.heap.size := Nat.le_trans hsz3 hg.size
            go_roundw
            case rel => exact ⟨j + 1, vs, by omega, by go_num, by rw [HS.out, HW.out]; exact HZn, HBn, hzn⟩
            case measure => simp [intOf]; omega
          · -- and
            have hab := hgb.2.1 (Or.inr rfl)
            obtain ⟨ja, rfl, hja, hea⟩ := elt_at (l := l) hab.1 (by have := HLL.out; omega)
            obtain ⟨jb, rfl, hjb, heb⟩ := elt_at (l := l) hab.2.2.1 (by have := HLL.out; omega)
            obtain ⟨bo, oo, xa, rfl, hbo, hxa, hca⟩ := (HRU.out.below HBB.out).int_at hja
            obtain ⟨bo2, oo2, xb, e2, hbo2, hxb, hcb⟩ := (HRU.out.below HBB.out).int_at hjb
            injection e2 with e2; injection e2 with e2 e2'; subst e2 e2'
            have exa := hea.symm.trans hxa
            have exb := heb.symm.trans hxb
            injection exa with exa
            injection exb with exb
            have ba := elt_bd (k := (ja : Int)) HBS.out
            have bb := elt_bd (k := (jb : Int)) HBS.out
            rw [exa] at ba
            rw [exb] at bb
            have HW := Lib.hid (show zStep (hgZ off) (hgR off) key off ⟨l, rows, ones⟩ ⟨1, (ja : Int), (jb : Int)⟩ = ⟨l ++ [hgZ off (l.length : Int) xa xb], rows ++ [hgR off (l.length : Int) xa xb], ones⟩ by unfold zStep; simp only [Int.reduceEq, if_false]; rw [exa, exb])
            have qq := belowCell ((HB2.out.cell (p := ⟨q, 0, none⟩) hql).trans QC.out)
            have q1 := belowCell y1
            have q2 := belowCell y2
            have q3 := belowCell hca
            have q4 := belowCell hcb
            clear hgb hea heb hxa hxb exa exb hab i1 y1 y2 hca hcb
            have hja0 : (0 : Int) ≤ (ja : Int) := Int.natCast_nonneg _
            have hja1 : (ja : Int) < (l.length : Int) := by omega
            have hjb0 : (0 : Int) ≤ (jb : Int) := Int.natCast_nonneg _
            have hjb1 : (jb : Int) < (l.length : Int) := by omega
            go_wp2_with fail
            go_region_held3 (fun w' => Below wb.heap.size wb w')
              (first | (refine below_step ?_ HD.out; assumption) | (exact (Below.refl _ _).drew))
              (first
                | (go_at_call 126; refine (c_halvedAnd1 (qq _ (by assumption)) ho (by omega) ba bb).mono ?_; rintro e wz ⟨u1, rfl, hu1, hb⟩; obtain ⟨A1, k1, rfl, -⟩ := hu1.ints; replace hu1 := Lib.hid (hu1.mono (Below.size (B := wb.heap.size) (w := wb) (by assumption))); have HD := Lib.hid hb))
            have hE : Below wb.heap.size wb wz := by assumption
            have HEE := Lib.hid hE
            have hszz := Nat.le_trans hsz hE.size
            have hszz3 := Nat.le_trans hsz3 hE.size
            have HB3 := Lib.hid (below_step HB2.out hE)
            have HZ3 := Lib.hid (HZ2.out.below hE)
            clear hE q1 q2 q3 q4 qq
            generalize hgZ off (l.length : Int) xa xb = zz at *
            generalize hgR off (l.length : Int) xa xb = rr at *
            have hlr := HZ3.out.rs.len
            go_wp2_with (at_builtin; first
              | (refine wp_app1 (B := w.heap.size + 1) rfl rfl Tryz.underlying33 info_ints rfl HZ3.out.rs.outer rfl rfl rfl (by unfold maxLen; omega) (by omega) hszz ?_; intro v' w8 ho8 hg8 hfr8; have HZ4 := Lib.hid (HZ2.out.rowR HEE.out hsz hu1.out ho8 hg8 hfr8); have HB4 := Lib.hid (below_app HB3.out (own_mono HZ3.out.rs.outer (Nat.le_add_right _ 1)) hg8 (Nat.le_refl _)); have hsz8 := Nat.le_trans hszz3 hg8.size; clear ho8 hg8 hfr8)
              | (refine wp_app1 (B := w.heap.size + 1) rfl rfl Tryz.underlying24 info_int rfl HZ4.out.own rfl rfl rfl (by unfold maxLen; omega) (by omega) (by omega) ?_; intro v9 w9 ho hg hfr))
            have HZn := Lib.hid (HZ4.out.appU (OwnI.snoc ho) hg hfr)
            have HBn := Lib.hid (below_app HB4.out (own_mono HZ4.out.own (Nat.le_add_right _ 1)) hg (Nat.le_refl _))
            have hzn : w.heap.size + 3 ≤ w9.heap.size := Nat.le_trans hsz8 hg.size
            go_roundw
            case rel => exact ⟨j + 1, _, by omega, by go_num, by rw [HS.out, HW.out]; exact HZn, HBn, hzn⟩
            case measure => simp [intOf]; omega
          · -- not
            have hab := hgb.2.2 rfl
            obtain ⟨ja, rfl, hja, hea⟩ := elt_at (l := l) hab.1 (by have := HLL.out; omega)
            obtain ⟨bo, oo, xa, rfl, hbo, hxa, hca⟩ := (HRU.out.below HBB.out).int_at hja
            have exa := hea.symm.trans hxa
            injection exa with exa
            have ba := elt_bd (k := (ja : Int)) HBS.out
            rw [exa] at ba
            have hxor := bits_xor ba.1 ho.1 (by omega) (by omega)
            have HW := Lib.hid (show zStep (hgZ off) (hgR off) key off ⟨l, rows, ones⟩ ⟨2, (ja : Int), gb⟩ = ⟨l ++ [xorI xa off], rows, ones⟩ by unfold zStep; simp only [Int.reduceEq, if_false, if_true]; rw [exa])
            clear hgb hea hxa exa hab i1
            have hja0 : (0 : Int) ≤ (ja : Int) := Int.natCast_nonneg _
            have hja1 : (ja : Int) < (l.length : Int) := by omega
            go_wp2_with (at_builtin; refine wp_app1 (B := w.heap.size + 1) rfl rfl Tryz.underlying24 info_int rfl HZ2.out.own rfl rfl rfl (by unfold maxLen; omega) (by omega) hsz ?_; intro v' w9 ho hg hfr)
            have HZn := Lib.hid (HZ2.out.appU (OwnI.snoc ho) hg hfr)
            have HBn := Lib.hid (below_app HB2.out (own_mono HZ2.out.own (Nat.le_add_right _ 1)) hg (Nat.le_refl _))
            have hzn : w.heap.size + 3 ≤ w9.heap.size := Nat.le_trans hsz3 hg.size
            go_roundw
            case rel => exact ⟨j + 1, vs, by omega, by go_num, by rw [HS.out, HW.out]; exact HZn, HBn, hzn⟩
            case measure => simp [intOf]; omega
          · -- one
            have HW := Lib.hid (show zStep (hgZ off) (hgR off) key off ⟨l, rows, ones⟩ ⟨3, ga, gb⟩ = ⟨l ++ [digM [key, (l.length : Int), 13, 0]], rows, ones ++ [xorI (digM [key, (l.length : Int), 13, 0]) off]⟩ by unfold zStep; simp only [Int.reduceEq, if_false, if_true])
            have HC := Lib.hid (fun W => c_impl_zeroLabel (w := W) (k := key) (n := (l.length : Int)) (by omega) (by omega))
            generalize digM [key, (l.length : Int), 13, 0] = z at *
            clear hgb i1
            go_wp2_with fail
            refine (HC.out _).mono ?_
            rintro e w2 ⟨rfl, hb2⟩
            have HZ3 := Lib.hid (HZ2.out.below hb2)
            have HB3 := Lib.hid (below_step HB2.out hb2)
            have hsz8 := Nat.le_trans hsz3 hb2.size
            clear hb2 HC
            go_wp2_with (at_builtin; refine wp_app1 (B := w.heap.size + 1) rfl rfl Tryz.underlying24 info_int rfl HZ3.out.own rfl rfl rfl (by unfold maxLen; omega) (by omega) (by omega) ?_; intro v' w9 ho hg hfr)
            have HZn := Lib.hid (HZ3.out.appU (OwnI.snoc ho) hg hfr)
            have HBn := Lib.hid (below_app HB3.out (own_mono HZ3.out.own (Nat.le_add_right _ 1)) hg (Nat.le_refl _))
            have hzn : w.heap.size + 3 ≤ w9.heap.size := Nat.le_trans hsz8 hg.size
            go_roundw
            case rel => exact ⟨j + 1, vs, by omega, by go_num, by rw [HS.out, HW.out]; exact HZn, HBn, hzn⟩
            case measure => simp [intOf]; omega
        · obtain rfl : j = c.gs.length := by omega
          have HE := Lib.hid (show c.gs.take c.gs.length = c.gs from List.take_of_length_le (Nat.le_refl _))
          have HZ3 := Lib.hid (show ZP wr (w.heap.size + 1) _ (zrM (hgZ off) (hgR off) key off k c.gs).zs _ vs (zrM (hgZ off) (hgR off) key off k c.gs).rows by have := HZ.out; rw [HE.out] at this; exact this)
          clear HZ HE
          go_wp2
          go_ret2
          rw [show c.ins.toNat = k by have := HN.out; omega]
          exact ⟨_, _, vs, rfl, HZ3.out.mono (Nat.le_add_right _ 1), HB.out⟩
end Go.Proofs.YtejeppjmlgfiaaaGreat
