/- Contracts of the reference's zero labels: of a gate GtAnd, its rows, and of all wires. Conditions: the circuit, the key and the offset are valid. -/
import Derived.Test.YtejeppjmlgfiaaaBt7
import Derived.Test.YtejeppjmlgfiaaaWirU
import Derived.Test.YtejeppjmlgfiaaaInpL
import Derived.Test.YtejeppjmlgfiaaaCirF
import Derived.Deep.RegionLaw
import Derived.Test.YtejeppjmlgfiaaaSta
import Derived.Test.YtejeppjmlgfiaaaInp
import Derived.Test.YtejeppjmlgfiaaaCol
import Derived.Test.YtejeppjmlgfiaaaGbK
import Derived.Test.YtejeppjmlgfiaaaEv
namespace Go.Proofs.Ytejeppjmlgfiaaa
open Go.RowKit
set_option linter.unusedVariables false

theorem gbZ_eq {off n x y : Int} : gbZ off n x y = xorI (digM [n, 14, xorI x (off * (x % 2)), xorI y (off * (y % 2))]) (off * (x % 2 * (y % 2))) := by
  unfold gbZ gbOwnM
  rw [xorI_zero (show 0 ≤ x % 2 by omega), xorI_zero (show 0 ≤ y % 2 by omega)]
theorem gbRow_eq {off n x y p q : Int} : gbRow off n x y p q = xorI (xorI (digM [n, 14, xorI x (off * xorI (x % 2) p), xorI y (off * xorI (y % 2) q)]) (gbZ off n x y)) (off * (xorI (x % 2) p * xorI (y % 2) q)) := by
  unfold gbRow gbOwnM
  rw [xorI_assoc]
theorem mul_bd {u r : Int} (hu : u = 0 ∨ u = 1) (hr : 0 ≤ r ∧ r ≤ 65535) : -9223372036854775808 ≤ u * r ∧ u * r ≤ 9223372036854775807 := by rcases hu with rfl | rfl <;> omega
end Go.Proofs.Ytejeppjmlgfiaaa

/- Contracts of the tables of garbled and halved circuits, the program's. Conditions: the circuit, the key and the offset are valid. -/
namespace Go.Proofs.Ytejeppjmlgfiaaa
open Go.RowKit
set_option linter.unusedVariables false

theorem zr_outs {F : Int → Int → Int → Int} {R : Int → Int → Int → List Int} {key off : Int} {c : Cir} (hc : cirB c = true) (h0 : 0 ≤ c.ins) :
    ∀ k ∈ c.outs, 0 ≤ k ∧ k < ((zrM F R key off c.ins.toNat c.gs).zs.length : Int) := by
  have h := (zr_inv (F := F) (R := R) (key := key) (off := off) (n := c.ins.toNat) (cirB_kinds hc) c.gs.length (Nat.le_refl _)).1
  rw [zr_all] at h
  intro k hk
  have := allB_bd (cirB_outs hc) k hk
  unfold Cir.wires at this
  omega
theorem zr_len {F : Int → Int → Int → Int} {R : Int → Int → Int → List Int} {key off : Int} {c : Cir} (hc : cirB c = true) :
    (zrM F R key off c.ins.toNat c.gs).zs.length = c.ins.toNat + c.gs.length := by
  have h := (zr_inv (F := F) (R := R) (key := key) (off := off) (n := c.ins.toNat) (cirB_kinds hc) c.gs.length (Nat.le_refl _)).1
  rwa [zr_all] at h
/-- Tables begun: rows and colours of the call's own, in a new block. -/
theorem sta_new {t : TypeId} {wx w0 : World} {rv cv : Value} {vs : List Value} {rows : List (List Int)} {cols : List Int} (hr : OwnRs wx w0.heap.size rv vs rows) (hcl : OwnI wx w0.heap.size cv cols) (ha : ∀ y ∈ rv :: vs, Apt cv y) (hb : Below w0.heap.size w0 wx) :
    Sta t (wx.alloc (.cells #[rv, .slice none 0 0, cv] t)) w0 wx.heap.size rv (.slice none 0 0) cv vs ⟨rows, [], cols⟩ := by
  have hx := (Below.refl wx.heap.size wx).alloc (Nat.le_refl _) (.cells #[rv, .slice none 0 0, cv] t)
  refine ⟨Blk.new _ _ _, ⟨hr.below hx, OwnI.nil _ _, hcl.below hx, ?_⟩, fun u hu e => ?_, hb.size, hb.alloc hb.size _⟩
  · refine List.pairwise_cons.2 ⟨fun u _ g e => (by cases e), List.pairwise_cons.2 ⟨ha, hr.apart⟩⟩
  · rcases List.mem_cons.1 hu with rfl | hu
    · cases e
    · rcases List.mem_cons.1 hu with rfl | hu
      · have := hcl.lt _ e; omega
      · have := (hr.bd u hu _ e).2; omega
end Go.Proofs.Ytejeppjmlgfiaaa

/- Contract of the reference's zero labels and tables of a halved circuit. Conditions: the circuit, the key and the offset are valid. -/
namespace Go.Proofs.Ytejeppjmlgfiaaa
open Go.RowKit
set_option linter.unusedVariables false

/-- The call returns the zero labels and the tables. -/
def RetZG (w : World) (zs : List Int) (g : Gb) (e : Ending) (w' : World) : Prop := ∃ u rv ov cv vs, e = .returned (.tuple #[u, gbV rv ov cv]) ∧ OwnI w' w.heap.size u zs ∧ OwnGb w' w.heap.size rv ov cv vs g ∧ Below w.heap.size w w'
theorem Blk.step0 {w : World} {b : Nat} {t : TypeId} {cs : Array Value} (h : Blk w b t cs) (p : Addr) (v : Value) (hp : p.block ≠ b) : Blk (w.setCell p v) b t cs := by
  exact h.far (fun e => hp e.symm) v
set_option maxRecDepth 100000 in
set_option maxHeartbeats 4000000 in
theorem c_spec_hgMake {c : Cir} {gv ov : Value} {key off : Int} {w : World} (h : CirIn w gv ov c) (hc : cirB c = true) (hk : 0 ≤ key ∧ key ≤ 1000000000) (ho : 0 ≤ off ∧ off ≤ 65535) :
    Calls Try.prog 101 #[cirV c gv ov, .int .i64 key, .int .i64 off] w (RetZG w (zrM (hgZ off) (hgR off) key off c.ins.toNat c.gs).zs (tabM (hgZ off) (hgR off) key off c)) := by
  have hbd := cirB_bd hc
  have hgl : c.gs.length ≤ 300 := hbd.2.2.2.2.1
  have hins : 0 ≤ c.ins ∧ c.ins ≤ 40 := by unfold Cir.ins; omega
  have HGB := Lib.hid (cirB_gates hc)
  have hol : c.outs.length ≤ 40 := hbd.2.2.2.2.2
  have HOB := Lib.hid (zr_outs (F := hgZ off) (R := hgR off) (key := key) (off := off) hc hins.1)
  have HKB := Lib.hid (cirB_kinds hc)
  have HBD := Lib.hid (zr_bd (m := 2) (F := hgZ off) (R := hgR off) ho (fun w x y hx _ => hgZ_bd ho hx w y) (fun w x y hx _ => hgR_bd ho hx w y) key c.ins.toNat)
  have hi4 : 0 ≤ c.i0 ∧ c.i0 ≤ 20 ∧ 0 ≤ c.i1 ∧ c.i1 ≤ 20 := by omega
  have H := Lib.hid h
  obtain ⟨hg, hoo⟩ := h
  obtain ⟨A, cg, rfl, hlg, hmg, hrg⟩ := hg
  obtain ⟨A', co, rfl, -⟩ := hoo
  have HRG := Lib.hid hrg
  unfold maxLen at hmg
  clear hc hbd hrg
  obtain ⟨N, hN⟩ : ∃ N : Nat, c.ins = (N : Int) := ⟨c.ins.toNat, by omega⟩
  have hN2 : c.ins.toNat = N := by omega
  rw [hN2] at HBD HOB
  have HN := Lib.hid hN
  have hI := (fun W (hW : Below w.heap.size w W) => c_spec_ciInputs (H.out.below hW) hi4)
  rw [hN] at hI
  have HI := Lib.hid hI
  have hN40 : (N : Int) ≤ 40 := by omega
  clear hN hN2 hI hins
  unfold cirV at HI ⊢
  obtain ⟨w0, hw0⟩ : ∃ W, (w.alloc (.cells #[.int .i64 c.i0, .int .i64 c.i1, .slice A c.gs.length cg, .slice A' c.outs.length co] 26)).alloc (.cells #[.slice none 0 0, .slice none 0 0, .slice none 0 0] 29) = W := ⟨_, rfl⟩
  have HKC0 : Hid (Blk (w0.alloc (.cells #[.slice none 0 0, .slice none 0 0, .slice none 0 0] 29)) w.heap.size 26 #[.int .i64 c.i0, .int .i64 c.i1, .slice A c.gs.length cg, .slice A' c.outs.length co]) := by rw [← hw0]; exact ((Blk.new _ _ _).alloc _).alloc _
  have HR : Hid (Blk w0 (w.heap.size + 1) 29 #[.slice none 0 0, .slice none 0 0, .slice none 0 0]) := by rw [← hw0]; have := Blk.new (w.alloc (.cells #[.int .i64 c.i0, .int .i64 c.i1, .slice A c.gs.length cg, .slice A' c.outs.length co] 26)) 29 #[.slice none 0 0, .slice none 0 0, .slice none 0 0]; simp only [World.size_alloc] at this; exact this
  have HB00 : Hid (Below w.heap.size w w0) := by rw [← hw0]; exact ((Below.refl _ _).alloc (Nat.le_refl _) _).alloc (by simp) _
  have hz0 : w0.heap.size = w.heap.size + 2 := by rw [← hw0]; simp
  have HS0 : Hid (SZ 29 (w0.alloc (.cells #[.slice none 0 0, .slice none 0 0, .slice none 0 0] 29)) w0 w0.heap.size (.slice none 0 0) [] (.slice none 0 0) (.slice none 0 0) (.slice none 0 0) [] ⟨[], [], []⟩) := Lib.hid ⟨sta_new (OwnRs.nil w0 _) (OwnI.nil _ _) (fun y hy g e _ => (by cases e)) (Below.refl _ _), OwnI.nil _ _, (fun y hy g e _ => (by cases e)), (by intro e; cases e)⟩
  have HZ0 := Lib.hid hz0
  clear hz0
  go_enter Try.func101, Try.ntmps101
  go_wp2
  clear hw0
  go_loopw [8, 10] (fun u i wr => ∃ k : Nat, k ≤ N ∧ i = .int .i64 k ∧ Hid (SZ 29 wr w0 w0.heap.size u (zIns key k) (.slice none 0 0) (.slice none 0 0) (.slice none 0 0) [] ⟨[], [], []⟩) ∧ Hid (Blk wr w.heap.size 26 #[.int .i64 c.i0, .int .i64 c.i1, .slice A c.gs.length cg, .slice A' c.outs.length co])) (fun _ i _ => N - (intOf i).toNat)
  case atStart => exact ⟨0, Nat.zero_le _, rfl, HS0, HKC0⟩
  case round =>
    obtain ⟨k, hk2, rfl, HO, HKC⟩ := hrel
    clear HS0 HKC0
    obtain ⟨wa, rfl⟩ : ∃ W, W = wr := ⟨wr, rfl⟩
    have HB := Lib.hid (below_step HB00.out (HO.out.sta.below.mono (Nat.le_refl _)))
    have x0 : wa.cell? ⟨w.heap.size, 0, none⟩ = some (.int .i64 c.i0) := HKC.out.cell 0
    have x1 : wa.cell? ⟨w.heap.size, 1, none⟩ = some (.int .i64 c.i1) := HKC.out.cell 1
    have x2 : wa.cell? ⟨w.heap.size, 2, none⟩ = some (.slice A c.gs.length cg) := HKC.out.cell 2
    have x3 : wa.cell? ⟨w.heap.size, 3, none⟩ = some (.slice A' c.outs.length co) := HKC.out.cell 3
    go_wp2_with fail
    refine (HI.out _ HB.out).mono ?_
    rintro e w1 ⟨rfl, hb1⟩
    replace HO := Lib.hid (HO.out.step hb1)
    replace HKC := Lib.hid (HKC.out.step hb1)
    clear hb1 x0 x1 x2 x3 HB
    by_cases hlt : k < N
    · go_wp2_with fail
      refine (c_spec_lbZero (by omega) (by omega)).mono ?_
      rintro e w2 ⟨rfl, hb2⟩
      have hdb := digM_bd [key, (k : Int), 13, 0]
      have HS := Lib.hid (zIns_snoc key k)
      generalize digM [key, (k : Int), 13, 0] = z at *
      have HO2 := Lib.hid (HO.out.step hb2)
      have HKC2 := Lib.hid (HKC.out.step hb2)
      have hz2 : w0.heap.size ≤ w2.heap.size := HO2.out.sta.below.size
      have hlen : (zIns key k).length ≤ 40 := by rw [zIns_length]; omega
      clear hb2 HO HKC
      go_wp2_with (at_builtin; refine wp_app1 (B := w0.heap.size) rfl rfl Try.underlying24 info_int rfl HO2.out.own rfl rfl rfl (by unfold maxLen; omega) (by omega) hz2 ?_; intro v' w9 ho hg hfr)
      have HKn := Lib.hid (HKC2.out.grown hg (fun e => by have h1 := HO2.out.own.ge _ e.symm; have h2 := HZ0.out; omega))
      go_roundw
      case rel => exact ⟨k + 1, by omega, by go_num, by rw [HS.out]; exact Lib.hid (HO2.out.appU (OwnI.snoc ho) hg hfr), HKn⟩
      case measure => simp [intOf]; omega
    · obtain rfl : k = N := by omega
      have x2 : w1.cell? ⟨w.heap.size, 2, none⟩ = some (.slice A c.gs.length cg) := HKC.out.cell 2
      have HO1 := HO
      have HKC1 := HKC
      clear HO HKC
      go_wp2
      clear x2
      go_loopw [8, 35] (fun u i wr => ∃ (j : Nat) (rv ov : Value) (vs : List Value), j ≤ c.gs.length ∧ i = .int .i64 j ∧ Hid (SZ 29 wr w0 w0.heap.size u (zrM (hgZ off) (hgR off) key off k (c.gs.take j)).zs rv ov (.slice none 0 0) vs ⟨(zrM (hgZ off) (hgR off) key off k (c.gs.take j)).rows, (zrM (hgZ off) (hgR off) key off k (c.gs.take j)).ones, []⟩) ∧ Hid (Blk wr w.heap.size 26 #[.int .i64 c.i0, .int .i64 c.i1, .slice A c.gs.length cg, .slice A' c.outs.length co])) (fun _ i _ => c.gs.length - (intOf i).toNat)
      case atStart => exact ⟨0, _, _, _, Nat.zero_le _, rfl, HO1, HKC1⟩
      case round =>
        obtain ⟨j, rv, ov, vs, hj, rfl, HO, HKC⟩ := hrel
        clear HO1 HKC1
        obtain ⟨wa, rfl⟩ : ∃ W, W = wr := ⟨wr, rfl⟩
        have HB := Lib.hid (below_step HB00.out (HO.out.sta.below.mono (Nat.le_refl _)))
        by_cases hjl : j < c.gs.length
        · obtain ⟨b, o, g, rfl, hbl, hgk, c0, c1', c2'⟩ := (HRG.out.below HB.out).gate_at hjl
          have hgb := gate_ab (gatesB_at _ _ j g HGB.out hgk)
          obtain ⟨i1, i2, i3⟩ := zr_inv (F := hgZ off) (R := hgR off) (key := key) (off := off) (n := k) HKB.out j (by omega)
          have HS := Lib.hid (zr_snoc (F := hgZ off) (R := hgR off) (key := key) (off := off) (n := k) hgk)
          obtain ⟨hbs, -, -⟩ := HBD.out (c.gs.take j)
          have hcl1 := cnt_le 1 c.gs j
          have hcb1 := cnt_bd 1 c.gs
          have hcl3 := cnt_le 3 c.gs j
          have hcb3 := cnt_bd 3 c.gs
          generalize hs : zrM (hgZ off) (hgR off) key off k (c.gs.take j) = s at *
          clear hs hgk
          obtain ⟨gk, ga, gb⟩ := g
          obtain ⟨l, rows, ones⟩ := s
          simp only at c0 c1' c2' hgb i1 i2 i3 hbs HO
          obtain ⟨Au, cu, rfl, hlu, hmu, hru⟩ := own_form HO.out.own
          unfold maxLen at hmu
          have hll : (l.length : Int) = k + j := by omega
          have hl340 : l.length ≤ 340 := by omega
          have hrl : rows.length ≤ 300 := by omega
          have hol3 : ones.length ≤ 300 := by omega
          have HLL := Lib.hid hll
          have HBS := Lib.hid hbs
          have HRU := Lib.hid hru
          have HNN := HN.out
          rw [HNN] at hgb
          obtain ⟨wg, hwg⟩ : ∃ W, wa.alloc (.cells #[.int .i64 gk, .int .i64 ga, .int .i64 gb] 98) = W := ⟨_, rfl⟩
          have hbg : Below wa.heap.size wa wg := by rw [← hwg]; exact (Below.refl _ _).alloc (Nat.le_refl _) _
          have HBX : Hid (Blk wg wa.heap.size 98 #[.int .i64 gk, .int .i64 ga, .int .i64 gb]) := by rw [← hwg]; exact Blk.new _ _ _
          have HC3 := Lib.hid (fun W => c_spec_lbZero (w := W) (k := key) (n := (l.length : Int)) (by omega) (by omega))
          have hzd := digM_bd [key, (l.length : Int), 13, 0]
          have HD3 := Lib.hid (show zStep (hgZ off) (hgR off) key off ⟨l, rows, ones⟩ ⟨3, ga, gb⟩ = ⟨l ++ [digM [key, (l.length : Int), 13, 0]], rows, ones ++ [xorI (digM [key, (l.length : Int), 13, 0]) off]⟩ by unfold zStep; simp only [Int.reduceEq, if_false, if_true])
          generalize digM [key, (l.length : Int), 13, 0] = z at *
          clear hll hbs hru hlu hmu HNN hcl1 hcb1 hcl3 hcb3 i2 i3 i1 HB hlt
          go_wp2_with fail
          refine (HC3.out _).mono ?_
          rintro e wb ⟨rfl, hbz⟩
          have HBB := Lib.hid (below_step hbg hbz)
          replace HBX := Lib.hid (HBX.out.step hbz)
          have y0 : wb.cell? ⟨wa.heap.size, 0, none⟩ = some (.int .i64 gk) := HBX.out.cell 0
          have y1 : wb.cell? ⟨wa.heap.size, 1, none⟩ = some (.int .i64 ga) := HBX.out.cell 1
          have y2 : wb.cell? ⟨wa.heap.size, 2, none⟩ = some (.int .i64 gb) := HBX.out.cell 2
          have HO2 := Lib.hid (HO.out.step HBB.out)
          have HKC2 := Lib.hid (HKC.out.step HBB.out)
          have hsz : w0.heap.size ≤ wb.heap.size := HO2.out.sta.below.size
          clear hbg hbz HO HKC hwg HC3
          have hkk : gk = 0 ∨ gk = 1 ∨ gk = 2 ∨ gk = 3 := by omega
          rcases hkk with rfl | rfl | rfl | rfl
          · -- exclusive-or
            have hab := hgb.2.1 (Or.inl rfl)
            obtain ⟨ja, rfl, hja, hea⟩ := elt_at (l := l) hab.1 (by have := HLL.out; omega)
            obtain ⟨jb, rfl, hjb, heb⟩ := elt_at (l := l) hab.2.2.1 (by have := HLL.out; omega)
            obtain ⟨bo, oo, xa, rfl, hbo, hxa, hca⟩ := (HRU.out.below HBB.out).int_at hja
            obtain ⟨bo2, oo2, xb, e2, hbo2, hxb, hcb⟩ := (HRU.out.below HBB.out).int_at hjb
            injection e2 with e2; injection e2 with e2 e2'; subst e2 e2'
            have exa := hea.symm.trans hxa
            have exb := heb.symm.trans hxb
            injection exa with exa
            injection exb with exb
            have ba := elt_bd (k := (ja : Int)) HBS.out
            have bb := elt_bd (k := (jb : Int)) HBS.out
            rw [exa] at ba
            rw [exb] at bb
            have hxor := bits_xor ba.1 bb.1 (by omega) (by omega)
            have HW := Lib.hid (show zStep (hgZ off) (hgR off) key off ⟨l, rows, ones⟩ ⟨0, (ja : Int), (jb : Int)⟩ = ⟨l ++ [xorI xa xb], rows, ones⟩ by unfold zStep; simp only [if_true]; rw [exa, exb])
            clear hgb hea heb hxa hxb exa exb hab HD3
            have hja0 : (0 : Int) ≤ (ja : Int) := Int.natCast_nonneg _
            have hja1 : (ja : Int) < (l.length : Int) := by omega
            have hjb0 : (0 : Int) ≤ (jb : Int) := Int.natCast_nonneg _
            have hjb1 : (jb : Int) < (l.length : Int) := by omega
            have HO3 := Lib.hid (HO2.out.step (Below.refl _ _).drew)
            have HKC3 := Lib.hid (HKC2.out.step (Below.refl _ _).drew)
            go_wp2_with fail
            go_region_held3 (fun w' => w'.cell? ⟨wa.heap.size, 1, none⟩ = some (.int .i64 (ja : Int)) ∧ w'.cell? ⟨wa.heap.size, 2, none⟩ = some (.int .i64 (jb : Int)) ∧ w'.cell? ⟨bo, oo + ja, none⟩ = some (.int .i64 xa) ∧ w'.cell? ⟨bo, oo + jb, none⟩ = some (.int .i64 xb)) (exact ⟨y1, y2, hca, hcb⟩) (fail)
            go_wp2_with (at_builtin; (refine wp_app1 (B := w0.heap.size) rfl rfl Try.underlying24 info_int rfl HO3.out.own rfl rfl rfl (by unfold maxLen; omega) (by omega) hsz ?_; intro v9 w9 ho hg hfr))
            have HKn := Lib.hid (HKC3.out.grown hg (fun e => by have h1 := HO3.out.own.ge _ e.symm; have h2 := HZ0.out; omega))
            go_roundw
            case rel => exact ⟨j + 1, rv, ov, vs, by omega, by go_num, by rw [HS.out, HW.out]; exact Lib.hid (HO3.out.appU (OwnI.snoc ho) hg hfr), HKn⟩
            case measure => simp [intOf]; omega
          · -- and
            have hab := hgb.2.1 (Or.inr rfl)
            obtain ⟨ja, rfl, hja, hea⟩ := elt_at (l := l) hab.1 (by have := HLL.out; omega)
            obtain ⟨jb, rfl, hjb, heb⟩ := elt_at (l := l) hab.2.2.1 (by have := HLL.out; omega)
            obtain ⟨bo, oo, xa, rfl, hbo, hxa, hca⟩ := (HRU.out.below HBB.out).int_at hja
            obtain ⟨bo2, oo2, xb, e2, hbo2, hxb, hcb⟩ := (HRU.out.below HBB.out).int_at hjb
            injection e2 with e2; injection e2 with e2 e2'; subst e2 e2'
            have exa := hea.symm.trans hxa
            have exb := heb.symm.trans hxb
            injection exa with exa
            injection exb with exb
            have ba := elt_bd (k := (ja : Int)) HBS.out
            have bb := elt_bd (k := (jb : Int)) HBS.out
            rw [exa] at ba
            rw [exb] at bb
            have HW := Lib.hid (show zStep (hgZ off) (hgR off) key off ⟨l, rows, ones⟩ ⟨1, (ja : Int), (jb : Int)⟩ = ⟨l ++ [hgZ off (l.length : Int) xa xb], rows ++ [hgR off (l.length : Int) xa xb], ones⟩ by unfold zStep; simp only [Int.reduceEq, if_false]; rw [exa, exb])
            clear hgb hea heb hxa hxb exa exb hab HD3
            have hja0 : (0 : Int) ≤ (ja : Int) := Int.natCast_nonneg _
            have hja1 : (ja : Int) < (l.length : Int) := by omega
            have hjb0 : (0 : Int) ≤ (jb : Int) := Int.natCast_nonneg _
            have hjb1 : (jb : Int) < (l.length : Int) := by omega
            have HO3 := Lib.hid (HO2.out.step (Below.refl _ _).drew)
            have HKC3 := Lib.hid (HKC2.out.step (Below.refl _ _).drew)
            have x1 : wb.cell? ⟨w0.heap.size, 0, none⟩ = some rv := HO2.out.sta.blk.cell 0
            have hxo := bits_xor ba.1 ho.1 (by omega) (by omega)
            have hyo := bits_xor bb.1 ho.1 (by omega) (by omega)
            have bxo := xorI_bd ba.1 ho.1 ba.2 ho.2
            have byo := xorI_bd bb.1 ho.1 bb.2 ho.2
            have HA := Lib.hid (show hgA off (l.length : Int) xa xb = xorI (xorI (digM [(l.length : Int), 15, xa, 0]) (digM [(l.length : Int), 15, xorI xa off, 0])) (off * (xb % 2)) from rfl)
            have HBB2 := Lib.hid (show hgB off (l.length : Int) xa xb = xorI (xorI (digM [(l.length : Int), 15, xb, 1]) (digM [(l.length : Int), 15, xorI xb off, 1])) xa from rfl)
            have HZZ := Lib.hid (show hgZ off (l.length : Int) xa xb = xorI (xorI (xorI (digM [(l.length : Int), 15, xa, 0]) (hgA off (l.length : Int) xa xb * (xa % 2))) (digM [(l.length : Int), 15, xb, 1])) (xorI (hgB off (l.length : Int) xa xb) xa * (xb % 2)) from rfl)
            have HRR := Lib.hid (show hgR off (l.length : Int) xa xb = [hgA off (l.length : Int) xa xb, hgB off (l.length : Int) xa xb] from rfl)
            have hA := hgA_bd ho (l.length : Int) xa xb
            have hB := hgB_bd ba off (l.length : Int) xb
            have b0 := digM_bd [(l.length : Int), 15, xa, 0]
            have b1 := digM_bd [(l.length : Int), 15, xorI xa off, 0]
            have b2 := digM_bd [(l.length : Int), 15, xb, 1]
            have b3 := digM_bd [(l.length : Int), 15, xorI xb off, 1]
            have HX0 := Lib.hid (fun W => c_spec_hgCipher (w := W) (n := (l.length : Int)) (l := xa) (s := 0) (by omega) (by omega) (by omega))
            have HX1 := Lib.hid (fun W => c_spec_hgCipher (w := W) (n := (l.length : Int)) (l := xorI xa off) (s := 0) (by omega) (by omega) (by omega))
            have HY0 := Lib.hid (fun W => c_spec_hgCipher (w := W) (n := (l.length : Int)) (l := xb) (s := 1) (by omega) (by omega) (by omega))
            have HY1 := Lib.hid (fun W => c_spec_hgCipher (w := W) (n := (l.length : Int)) (l := xorI xb off) (s := 1) (by omega) (by omega) (by omega))
            rw [HRR.out] at HW
            generalize digM [(l.length : Int), 15, xa, 0] = d0 at *
            generalize digM [(l.length : Int), 15, xorI xa off, 0] = d1 at *
            generalize digM [(l.length : Int), 15, xb, 1] = d2 at *
            generalize digM [(l.length : Int), 15, xorI xb off, 1] = d3 at *
            generalize xorI xa off = xo at *
            generalize xorI xb off = yo at *
            generalize hgA off (l.length : Int) xa xb = vA at *
            generalize hgB off (l.length : Int) xa xb = vB at *
            generalize hgZ off (l.length : Int) xa xb = vZ at *
            have ta := tmod2 ba.1
            have tb := tmod2 bb.1
            have hi2 := bit2 xa
            have hk3 := bit2 xb
            generalize xa % 2 = pi at *
            generalize xb % 2 = pk at *
            have mk := off_bit ho hk3
            have mi := off_bit hA hi2
            have bBx := xorI_bd hB.1 ba.1 hB.2 ba.2
            have mB := off_bit bBx hk3
            have z1 := bits_xor b0.1 b1.1 (by omega) (by omega)
            have e1 := xorI_bd b0.1 b1.1 b0.2 b1.2
            have z2 := bits_xor e1.1 mk.1 (by omega) (by omega)
            rw [← HA.out] at z2
            have z3 := bits_xor b2.1 b3.1 (by omega) (by omega)
            have e3 := xorI_bd b2.1 b3.1 b2.2 b3.2
            have z4 := bits_xor e3.1 ba.1 (by omega) (by omega)
            rw [← HBB2.out] at z4
            have z5 := bits_xor b0.1 mi.1 (by omega) (by omega)
            have e5 := xorI_bd b0.1 mi.1 b0.2 mi.2
            have z6 := bits_xor e5.1 b2.1 (by omega) (by omega)
            have e6 := xorI_bd e5.1 b2.1 e5.2 b2.2
            have z7 := bits_xor hB.1 ba.1 (by omega) (by omega)
            have z8 := bits_xor e6.1 mB.1 (by omega) (by omega)
            rw [← HZZ.out] at z8
            have HF1 := Lib.hid (fun W => c_spec_hgIf (w := W) (b := off) hk3)
            have HF2 := Lib.hid (fun W => c_spec_hgIf (w := W) (b := vA) hi2)
            have HF3 := Lib.hid (fun W => c_spec_hgIf (w := W) (b := xorI vB xa) hk3)
            clear HA HBB2 HZZ HRR hi2 hk3 HO2 HKC2
            generalize xorI d0 d1 = q1 at *
            generalize xorI d2 d3 = q2 at *
            generalize xorI (xorI d0 (vA * pi)) d2 = q4 at *
            generalize xorI d0 (vA * pi) = q3 at *
            generalize xorI vB xa = q5 at *
            generalize off * pk = ok at *
            generalize vA * pi = ai at *
            generalize q5 * pk = qk at *
            go_wp2_with fail
            go_region_held3 (fun w' => w'.cell? ⟨wa.heap.size, 1, none⟩ = some (.int .i64 (ja : Int)) ∧ w'.cell? ⟨wa.heap.size, 2, none⟩ = some (.int .i64 (jb : Int)) ∧ w'.cell? ⟨bo, oo + ja, none⟩ = some (.int .i64 xa) ∧ w'.cell? ⟨bo, oo + jb, none⟩ = some (.int .i64 xb)) (exact ⟨y1, y2, hca, hcb⟩) (fail)
            go_wp2_with fail
            refine (HX0.out _).mono ?_
            rintro e wc ⟨rfl, hb⟩
            have HO4 := Lib.hid (HO3.out.step hb)
            have HKC4 := Lib.hid (HKC3.out.step hb)
            clear hb
            go_wp2_with fail
            refine (HX1.out _).mono ?_
            rintro e wd ⟨rfl, hb⟩
            have HO5 := Lib.hid (HO4.out.step hb)
            have HKC5 := Lib.hid (HKC4.out.step hb)
            clear hb
            go_wp2_with fail
            refine (HF1.out _).mono ?_
            rintro e w' ⟨rfl, rfl⟩
            go_wp2_with fail
            refine (HY0.out _).mono ?_
            rintro e we ⟨rfl, hb⟩
            have HO6 := Lib.hid (HO5.out.step hb)
            have HKC6 := Lib.hid (HKC5.out.step hb)
            clear hb
            go_wp2_with fail
            refine (HY1.out _).mono ?_
            rintro e wf ⟨rfl, hb⟩
            have HO7 := Lib.hid (HO6.out.step hb)
            have HKC7 := Lib.hid (HKC6.out.step hb)
            clear hb HO3 HO4 HO5 HO6 HKC3 HKC4 HKC5 HKC6 y0 y1 y2 hca hcb x1
            have hszf : w0.heap.size ≤ wf.heap.size := HO7.out.sta.below.size
            have x1 : wf.cell? ⟨w0.heap.size, 0, none⟩ = some rv := HO7.out.sta.blk.cell 0
            have HLIT := Lib.hid (OwnI.lit (w := wf) (B := wf.heap.size) [vA, vB] #[.int .i64 vA, .int .i64 vB] rfl (Nat.le_refl _) (by simp))
            have HOW : Hid ((wf.alloc (.cells #[.int .i64 vA, .int .i64 vB] 3)).ownsRow w0.heap.size 24 1 rv rows.length vs) := Lib.hid (World.ownsRow.alloc HO7.out.sta.own.rows.outer _)
            have HLB := Lib.hid ((Below.refl wf.heap.size wf).alloc (Nat.le_refl _) (.cells #[.int .i64 vA, .int .i64 vB] 3))
            have hsza : w0.heap.size ≤ (wf.alloc (.cells #[.int .i64 vA, .int .i64 vB] 3)).heap.size := Nat.le_trans hszf HLB.out.size
            obtain ⟨wl, hwl⟩ : ∃ W, wf.alloc (.cells #[.int .i64 vA, .int .i64 vB] 3) = W := ⟨_, rfl⟩
            rw [hwl] at HLIT HOW HLB hsza
            go_wp2_with (at_builtin; refine wp_app1 (B := w0.heap.size) rfl rfl Try.underlying27 info_ints rfl HOW.out rfl rfl rfl (by unfold maxLen; omega) (by omega) hsza ?_; intro v8 w8 ho8 hg8 hfr8; have HSG := Lib.hid (HO7.out.row HLB.out HLIT.out ho8 hg8 hfr8); have HKC8 := Lib.hid (((HKC7.out.step HLB.out).grown hg8 (fun e => by have h1 := (HO7.out.sta.own.bd rv (by simp) _ e.symm).1; have h2 := HZ0.out; omega)).step0 ⟨w0.heap.size, 0, none⟩ v8 (by have h2 := HZ0.out; simp; omega)); have hk2 := (HO7.out.sta.blk.step HLB.out).grown hg8 (fun e => HO7.out.sta.far rv (by simp) e.symm); have z9 : w8.cell? ⟨w0.heap.size, 0, none⟩ = some rv := hk2.cell 0; have zf := hk2.free 0; have hsz8 : w0.heap.size ≤ (w8.setCell ⟨w0.heap.size, 0, none⟩ v8).heap.size := HSG.out.sta.below.size; clear hk2; obtain ⟨Av, cv9, rfl, -⟩ := own_sl ho8; clear ho8 hg8 hfr8)
            refine (HX0.out _).mono ?_
            rintro e wg2 ⟨rfl, hb⟩
            have HO8 := Lib.hid (HSG.out.step hb)
            have HKC9 := Lib.hid (HKC8.out.step hb)
            clear hb z9 zf hwl
            go_wp2_with fail
            refine (HF2.out _).mono ?_
            rintro e w' ⟨rfl, rfl⟩
            go_wp2_with fail
            refine (HY0.out _).mono ?_
            rintro e wh ⟨rfl, hb⟩
            have HO9 := Lib.hid (HO8.out.step hb)
            have HKC10 := Lib.hid (HKC9.out.step hb)
            have hszh : w0.heap.size ≤ wh.heap.size := HO9.out.sta.below.size
            clear hb HO8 HKC9 HKC8 HSG
            go_wp2_with fail
            refine (HF3.out _).mono ?_
            rintro e w' ⟨rfl, rfl⟩
            go_wp2_with (at_builtin; (refine wp_app1 (B := w0.heap.size) rfl rfl Try.underlying24 info_int rfl HO9.out.own rfl rfl rfl (by unfold maxLen; omega) (by omega) hszh ?_; intro v9 w9 ho hg hfr))
            have HKn := Lib.hid (HKC10.out.grown hg (fun e => by have h1 := HO9.out.own.ge _ e.symm; have h2 := HZ0.out; omega))
            go_roundw
            case rel => exact ⟨j + 1, _, ov, _, by omega, by go_num, by rw [HS.out, HW.out]; exact Lib.hid (HO9.out.appU (OwnI.snoc ho) hg hfr), HKn⟩
            case measure => simp [intOf]; omega
          · -- not
            have hab := hgb.2.2 rfl
            obtain ⟨ja, rfl, hja, hea⟩ := elt_at (l := l) hab.1 (by have := HLL.out; omega)
            obtain ⟨bo, oo, xa, rfl, hbo, hxa, hca⟩ := (HRU.out.below HBB.out).int_at hja
            have exa := hea.symm.trans hxa
            injection exa with exa
            have ba := elt_bd (k := (ja : Int)) HBS.out
            rw [exa] at ba
            have hxor := bits_xor ba.1 ho.1 (by omega) (by omega)
            have HW := Lib.hid (show zStep (hgZ off) (hgR off) key off ⟨l, rows, ones⟩ ⟨2, (ja : Int), gb⟩ = ⟨l ++ [xorI xa off], rows, ones⟩ by unfold zStep; simp only [Int.reduceEq, if_false, if_true]; rw [exa])
            clear hgb hea hxa exa hab HD3
            have hja0 : (0 : Int) ≤ (ja : Int) := Int.natCast_nonneg _
            have hja1 : (ja : Int) < (l.length : Int) := by omega
            go_wp2_with (at_builtin; (refine wp_app1 (B := w0.heap.size) rfl rfl Try.underlying24 info_int rfl HO2.out.own rfl rfl rfl (by unfold maxLen; omega) (by omega) hsz ?_; intro v9 w9 ho hg hfr))
            have HKn := Lib.hid (HKC2.out.grown hg (fun e => by have h1 := HO2.out.own.ge _ e.symm; have h2 := HZ0.out; omega))
            go_roundw
            case rel => exact ⟨j + 1, rv, ov, vs, by omega, by go_num, by rw [HS.out, HW.out]; exact Lib.hid (HO2.out.appU (OwnI.snoc ho) hg hfr), HKn⟩
            case measure => simp [intOf]; omega
          · -- one
            have HW := HD3
            have hxor := bits_xor hzd.1 ho.1 (by omega) (by omega)
            have x1 : wb.cell? ⟨w0.heap.size, 1, none⟩ = some ov := HO2.out.sta.blk.cell 1
            clear hgb HD3
            have HOW : Hid (OwnI wb w0.heap.size ov ones) := Lib.hid HO2.out.sta.own.ones
            go_wp2_with (at_builtin; first
              | (refine wp_app1 (B := w0.heap.size) rfl rfl Try.underlying24 info_int rfl HOW.out rfl rfl rfl (by unfold maxLen; omega) (by omega) hsz ?_; intro v8 w8 ho8 hg8 hfr8; have HON := Lib.hid (OwnI.snoc ho8); have HSG := Lib.hid (HO2.out.one (Below.refl _ _) HON.out hg8 hfr8); have HKC8 := Lib.hid ((HKC2.out.grown hg8 (fun e => by have h1 := HOW.out.ge _ e.symm; have h2 := HZ0.out; omega)).step0 ⟨w0.heap.size, 1, none⟩ v8 (by have h2 := HZ0.out; simp; omega)); have hk2 := HO2.out.sta.blk.grown hg8 (fun e => HO2.out.sta.far ov (by simp) e.symm); have z1 : w8.cell? ⟨w0.heap.size, 1, none⟩ = some ov := hk2.cell 1; have zf := hk2.free 1; have hsz8 : w0.heap.size ≤ (w8.setCell ⟨w0.heap.size, 1, none⟩ v8).heap.size := HSG.out.sta.below.size; clear hk2 ho8 hg8 hfr8; obtain ⟨Av, cv9, ev, -⟩ := HON.out.ints; simp only [List.length_append, List.length_cons, List.length_nil, Nat.zero_add] at ev; subst ev; obtain ⟨w7, hw7⟩ : ∃ W, w8.setCell ⟨w0.heap.size, 1, none⟩ (.slice Av (ones.length + 1) cv9) = W := ⟨_, rfl⟩; rw [hw7] at HSG HKC8 hsz8)
              | (refine wp_app1 (B := w0.heap.size) rfl rfl Try.underlying24 info_int rfl HSG.out.own rfl rfl rfl (by unfold maxLen; omega) (by omega) hsz8 ?_; intro v9 w9 ho hg hfr))
            have HKn := Lib.hid (HKC8.out.grown hg (fun e => by have h1 := HSG.out.own.ge _ e.symm; have h2 := HZ0.out; omega))
            go_roundw
            case rel => exact ⟨j + 1, rv, _, vs, by omega, by go_num, by rw [HS.out, HW.out]; exact Lib.hid (HSG.out.appU (OwnI.snoc ho) hg hfr), HKn⟩
            case measure => simp [intOf]; omega
        · obtain rfl : j = c.gs.length := by omega
          have HO2 := HO.out
          rw [List.take_of_length_le (Nat.le_refl _)] at HO2
          replace HO2 := Lib.hid HO2
          have HTM := Lib.hid (show tabM (hgZ off) (hgR off) key off c = ⟨(zrM (hgZ off) (hgR off) key off k c.gs).rows, (zrM (hgZ off) (hgR off) key off k c.gs).ones, coloursM (pickM (zrM (hgZ off) (hgR off) key off k c.gs).zs c.outs)⟩ by unfold tabM; rw [show c.ins.toNat = k by have := HN.out; omega])
          have hzl := (zr_inv (F := hgZ off) (R := hgR off) (key := key) (off := off) (n := k) HKB.out c.gs.length (Nat.le_refl _)).1
          rw [zr_all] at hzl
          have HZB := Lib.hid (HBD.out c.gs).1
          have HOB2 := HOB
          have HFIN := Lib.hid (show c.ins.toNat = k by have := HN.out; omega)
          obtain ⟨S, hS⟩ : ∃ S, zrM (hgZ off) (hgR off) key off k c.gs = S := ⟨_, rfl⟩
          rw [hS] at HO2 HTM hzl HZB HOB2
          have HSE := Lib.hid hS
          clear hS
          obtain ⟨zs, rows, ones⟩ := S
          simp only at HO2 HTM hzl HZB HOB2
          have hzl2 : zs.length ≤ 340 := by omega
          obtain ⟨Au, cu, rfl, hlu, hmu, -⟩ := own_form HO2.out.own
          unfold maxLen at hmu
          obtain ⟨Ar, cr, rfl, -⟩ := HO2.out.sta.own.rows.rowsIn.form
          obtain ⟨Ao, co', rfl, -⟩ := HO2.out.sta.own.ones.ints
          have x3 : wa.cell? ⟨w.heap.size, 3, none⟩ = some (.slice A' c.outs.length co) := HKC.out.cell 3
          clear HO hzl
          go_wp2_with fail
          refine (c_spec_ciPick HO2.out.own.ints (H.out.below HB.out).outs (by omega) (by omega) HOB2.out).mono ?_
          rintro e w2 ⟨u2, rfl, hu2, hb2⟩
          have HB12 := Lib.hid hb2
          have HU2 := Lib.hid hu2
          obtain ⟨A2, c2, rfl, -⟩ := hu2.ints
          clear hu2 hb2 x3
          go_wp2_with fail
          refine (c_spec_lbColours HU2.out.ints (by rw [pickM_length]; omega) (fun x hx => by
            simp only [pickM, List.mem_map] at hx
            obtain ⟨k, -, rfl⟩ := hx
            have := elt_bd (k := k) HZB.out
            unfold elt at this; omega)).mono ?_
          rintro e w3 ⟨u3, rfl, hu3, hb3⟩
          obtain ⟨cols, hcols⟩ : ∃ cols, coloursM (pickM zs c.outs) = cols := ⟨_, rfl⟩
          rw [hcols] at hu3 HTM
          clear hcols
          have HB13 := Lib.hid (below_step HB12.out hb3)
          have HU3 := Lib.hid (hu3.mono HB12.out.size)
          obtain ⟨A3, c3, rfl, -⟩ := hu3.ints
          have HST := Lib.hid (HO2.out.sta.colours HB13.out HU3.out)
          have hk0 := (HO2.out.step HB13.out).sta.blk
          have z2 : w3.cell? ⟨w0.heap.size, 2, none⟩ = some (.slice none 0 0) := hk0.cell 2
          have zf2 := hk0.free 2
          have HZS := Lib.hid (OwnI.far (p := ⟨w0.heap.size, 2, none⟩) (HO2.out.own.below HB13.out) (fun a e e' => HO2.out.far (by rw [e, e'])) (.slice A3 cols.length c3))
          obtain ⟨w4, hw4⟩ : ∃ W, w3.setCell ⟨w0.heap.size, 2, none⟩ (.slice A3 cols.length c3) = W := ⟨_, rfl⟩
          rw [hw4] at HST HZS
          have s0 : w4.cell? ⟨w0.heap.size, 0, none⟩ = some _ := HST.out.blk.cell 0
          have s1 : w4.cell? ⟨w0.heap.size, 1, none⟩ = some _ := HST.out.blk.cell 1
          have s2 : w4.cell? ⟨w0.heap.size, 2, none⟩ = some _ := HST.out.blk.cell 2
          have hR := HR.out.below HST.out.below HR.out.lt
          have r0 : w4.cell? ⟨w.heap.size + 1, 0, none⟩ = some (.slice none 0 0) := hR.cell 0
          have r1 : w4.cell? ⟨w.heap.size + 1, 1, none⟩ = some (.slice none 0 0) := hR.cell 1
          have r2 : w4.cell? ⟨w.heap.size + 1, 2, none⟩ = some (.slice none 0 0) := hR.cell 2
          have rf0 := hR.free 0
          have rf1 := hR.free 1
          have rf2 := hR.free 2
          have hlow := HR.out.lt
          have hRl := hR.lt
          clear hR hk0 hu3 hb3
          go_wp2_with fail
          go_region_law (fail)
          all_goals
            go_wp2
            refine bodyPost_ret (v := .tuple #[.slice Au zs.length cu, gbV (.slice Ar rows.length cr) (.slice Ao ones.length co') (.slice A3 cols.length c3)]) (by simp [results, Try.results101, go_sem, gbV, r0, r1, r2]) rfl ⟨_, _, _, _, vs, rfl, ?_, ?_, ?_⟩
            · rw [HFIN.out, HSE.out]
              have hne : ∀ a, (Value.slice Au zs.length cu).ownBlock = some a → a ≠ w.heap.size + 1 := fun a e e' => by have h1 := HZS.out.ge a e; omega
              exact own_drew ((((HZS.out.far (p := ⟨w.heap.size + 1, 0, none⟩) hne _).far (p := ⟨w.heap.size + 1, 1, none⟩) hne _).far (p := ⟨w.heap.size + 1, 2, none⟩) hne _).mono HB00.out.size)
            · rw [HTM.out]
              exact ((((HST.out.own.setLow hlow 0 _).setLow hlow 1 _).setLow hlow 2 _).mono HB00.out.size).below (Below.refl _ _).drew
            · exact ((((below_step HB00.out (HST.out.below.mono (Nat.le_refl _))).setCell (p := ⟨w.heap.size + 1, 0, none⟩) (by simp) _).setCell (p := ⟨w.heap.size + 1, 1, none⟩) (by simp) _).setCell (p := ⟨w.heap.size + 1, 2, none⟩) (by simp) _).drew
end Go.Proofs.Ytejeppjmlgfiaaa

/- Contract of the reference's tables of a garbled circuit. Conditions: the circuit, the key and the offset are valid. -/
namespace Go.Proofs.Ytejeppjmlgfiaaa
open Go.RowKit
set_option linter.unusedVariables false

end Go.Proofs.Ytejeppjmlgfiaaa

/- The call returns tables and whether it could. Plain definitions. -/
namespace Go.Proofs.Ytejeppjmlgfiaaa
open Go.RowKit
set_option linter.unusedVariables false

def Gb.none : Gb := ⟨[], [], []⟩
def RetGbB (w : World) (o : Option Gb) (e : Ending) (w' : World) : Prop := ∃ rv ov cv vs, e = .returned (.tuple #[gbV rv ov cv, .bool o.isSome]) ∧ OwnGb w' w.heap.size rv ov cv vs (o.getD Gb.none) ∧ Below w.heap.size w w'
theorem OwnGb.empty (w : World) (B : Nat) : OwnGb w B (.slice none 0 0) (.slice none 0 0) (.slice none 0 0) [] Gb.none :=
  ⟨OwnRs.nil w B, World.ownsRow_nil w B _ 1, World.ownsRow_nil w B _ 1, by
    refine List.pairwise_cons.2 ⟨fun u hu => ?_, List.pairwise_cons.2 ⟨fun u hu => ?_, by simp⟩⟩ <;> (intro g e; cases e)⟩
theorem RetGbB.no {w w' : World} (h : Below w.heap.size w w') : RetGbB w none (.returned (.tuple #[gbV (.slice none 0 0) (.slice none 0 0) (.slice none 0 0), .bool false])) w' := ⟨_, _, _, [], rfl, OwnGb.empty w' _, h⟩
end Go.Proofs.Ytejeppjmlgfiaaa

/- Contracts of the exported zero labels and tables. No condition. -/
namespace Go.Proofs.Ytejeppjmlgfiaaa
open Go.RowKit
set_option linter.unusedVariables false

def keyB (c : Cir) (key off : Int) : Bool := cirB c && inB key 0 1000000000 && offB off
def zerosM (F : Int → Int → Int → Int → Int) (R : Int → Int → Int → Int → List Int) (c : Cir) (key off : Int) : Option (List Int) := if keyB c key off then some (zrM (F off) (R off) key off c.ins.toNat c.gs).zs else none
def tablesM (F : Int → Int → Int → Int → Int) (R : Int → Int → Int → Int → List Int) (c : Cir) (key off : Int) : Option Gb := if keyB c key off then some (tabM (F off) (R off) key off c) else none
theorem keyB_of {c : Cir} {key off : Int} (h : keyB c key off = true) : cirB c = true ∧ (0 ≤ key ∧ key ≤ 1000000000) ∧ (0 ≤ off ∧ off ≤ 65535) ∧ off % 2 = 1 := by
  simp only [keyB, Bool.and_eq_true] at h
  have h2 := inB_bd h.1.2
  have h3 := offB_bd h.2
  exact ⟨h.1.1, h2, ⟨h3.1, h3.2.1⟩, h3.2.2⟩
theorem three_far {w : World} {p : Nat} {v0 v1 v2 v3 : Value} (h : w.cell? ⟨p, 0, none⟩ = some v0 ∧ w.cell? ⟨p, 1, none⟩ = some v1 ∧ w.cell? ⟨p, 2, none⟩ = some v2 ∧ w.cell? ⟨p, 3, none⟩ = some v3) (n : Nat) (hn : n + 1 ≠ p) (a b d : Value) :
    (((w.setCell ⟨n + 1, 0, none⟩ a).setCell ⟨n + 1, 1, none⟩ b).setCell ⟨n + 1, 2, none⟩ d).cell? ⟨p, 0, none⟩ = some v0 ∧ (((w.setCell ⟨n + 1, 0, none⟩ a).setCell ⟨n + 1, 1, none⟩ b).setCell ⟨n + 1, 2, none⟩ d).cell? ⟨p, 1, none⟩ = some v1 ∧ (((w.setCell ⟨n + 1, 0, none⟩ a).setCell ⟨n + 1, 1, none⟩ b).setCell ⟨n + 1, 2, none⟩ d).cell? ⟨p, 2, none⟩ = some v2 ∧ (((w.setCell ⟨n + 1, 0, none⟩ a).setCell ⟨n + 1, 1, none⟩ b).setCell ⟨n + 1, 2, none⟩ d).cell? ⟨p, 3, none⟩ = some v3 := by
  have far : ∀ (W : World) (i j : Nat) (v : Value), (W.setCell ⟨n + 1, i, none⟩ v).cell? ⟨p, j, none⟩ = W.cell? ⟨p, j, none⟩ := fun W i j v => World.cell?_setCell_far W ⟨n + 1, i, none⟩ ⟨p, j, none⟩ v hn
  refine ⟨?_, ?_, ?_, ?_⟩ <;> rw [far, far, far] <;> simp only [h]
end Go.Proofs.Ytejeppjmlgfiaaa

/- Contracts of the reference's exported zero labels and tables. No condition. -/
namespace Go.Proofs.Ytejeppjmlgfiaaa
open Go.RowKit
set_option linter.unusedVariables false


theorem zerosM_len {F : Int → Int → Int → Int → Int} {R : Int → Int → Int → Int → List Int} (c : Cir) (key off : Int) : ((zerosM F R c key off).getD []).length ≤ 340 := by
  unfold zerosM
  rcases h : keyB c key off with _ | _
  · simp
  · have hc := (keyB_of h).1
    have h1 := zr_len (F := F off) (R := R off) (key := key) (off := off) hc
    have hb := cirB_bd hc
    have : c.ins.toNat ≤ 40 := by unfold Cir.ins; omega
    simp only [if_true, Option.getD_some]
    omega
theorem gb_sz (c : Cir) (key off : Int) : ((tablesM gbZ gbR c key off).getD Gb.none).sz ≤ 2097152 := by
  unfold tablesM
  rcases h : keyB c key off with _ | _
  · show Gb.none.sz ≤ 2097152; decide
  · have hv := keyB_of h
    simp only [if_true, Option.getD_some]
    exact Nat.le_trans (tab_sz (n := 3) hv.1 (gb_tab_ok hv.1 hv.2.2.1) (by omega)) (by omega)
theorem hg_sz (c : Cir) (key off : Int) : ((tablesM hgZ hgR c key off).getD Gb.none).sz ≤ 2097152 := by
  unfold tablesM
  rcases h : keyB c key off with _ | _
  · show Gb.none.sz ≤ 2097152; decide
  · have hv := keyB_of h
    simp only [if_true, Option.getD_some]
    exact Nat.le_trans (tab_sz (n := 2) hv.1 (hg_tab_ok hv.1 hv.2.2.1) (by omega)) (by omega)
end Go.Proofs.Ytejeppjmlgfiaaa
