/- Contracts of the laws' own helpers on tables of garbled and halved circuits. Conditions: the lists are short. -/
import Derived.Test.YtllaojfgenopbaaGbL
namespace Go.Proofs.Ytllaojfgenopbaa
open Go.RowKit
set_option linter.unusedVariables false

/-! ### words for worlds -/
/-- The blocks from lo on and below hi are as they were. -/
structure Kept (lo hi : Nat) (w w' : World) : Prop where
  size : w.heap.size ≤ w'.heap.size
  block : ∀ b, lo ≤ b → b < hi → w'.heap[b]? = w.heap[b]?
section
variable {lo hi : Nat} {a b c w w' : World}
theorem Kept.refl : Kept lo hi w w := ⟨Nat.le_refl _, fun _ _ _ => rfl⟩
theorem Kept.below {N : Nat} (h : Kept lo hi a b) (k : Below N b c) (hN : hi ≤ N) : Kept lo hi a c := ⟨Nat.le_trans h.size k.size, fun x h1 h2 => (k.block x (by omega)).trans (h.block x h1 h2)⟩
theorem Kept.step (h : Kept lo hi a b) (k : Below b.heap.size b c) (hN : hi ≤ a.heap.size) : Kept lo hi a c := h.below k (Nat.le_trans hN h.size)
theorem Kept.set (h : Kept lo hi a b) {p : Addr} (hp : p.block < lo) (u : Value) : Kept lo hi a (b.setCell p u) :=
  ⟨by simpa using h.size, fun x h1 h2 => (Below.heap_setCell _ _ _ _ (by omega)).trans (h.block x h1 h2)⟩
theorem own_kept {B E sz n hi : Nat} {v : Value} {xs : List Value} (h : w.ownsRow B E sz v n xs) (k : Kept B w.heap.size w w') : w'.ownsRow B E sz v n xs := by
  refine ⟨h.1, ?_⟩
  rcases h.2 with h2 | ⟨g, cap, cur, rfl, hB, hh, r⟩
  · exact .inl h2
  · have hg : g < w.heap.size := (Array.getElem?_eq_some_iff.1 hh).1
    exact .inr ⟨g, cap, cur, rfl, hB, (k.block g hB hg).trans hh, r⟩
theorem OwnI.kept {B : Nat} {v : Value} {l : List Int} (h : OwnI w B v l) (k : Kept B w.heap.size w w') : OwnI w' B v l := own_kept (hi := 0) h k
theorem OwnRs.kept {B : Nat} {v : Value} {vs : List Value} {rows : List (List Int)} (h : OwnRs w B v vs rows) (k : Kept B w.heap.size w w') : OwnRs w' B v vs rows :=
  ⟨h.len, own_kept (hi := 0) h.outer k, fun i u r hu hr => (h.inner i u r hu hr).kept k, h.apart⟩
end
/-- All old cells and marks read as before. -/
theorem bcell {W w1 : World} (hb : Below W.heap.size W w1) : (∀ b o, b < W.heap.size → w1.cell? ⟨b, o, none⟩ = W.cell? ⟨b, o, none⟩) ∧ (∀ b o, b < W.heap.size → w1.frozen? ⟨b, o, none⟩ = W.frozen? ⟨b, o, none⟩) :=
  ⟨fun b o h => hb.cell (p := ⟨b, o, none⟩) h, fun b o h => hb.frozen (p := ⟨b, o, none⟩) h⟩

def Gb.sz (g : Gb) : Nat := g.rows.length + cntR g.rows + g.ones.length + g.cols.length
theorem Gb.row_le {g : Gb} {N : Nat} (h : g.sz ≤ N) : ∀ r ∈ g.rows, r.length ≤ N := fun r hr => by
  obtain ⟨i, hi⟩ := List.getElem?_of_mem hr
  have := cntR_len hi
  unfold Gb.sz at h; omega
theorem apt3 {w1 w2 w3 : World} {B B2 B3 : Nat} {rv ov cv : Value} {vs : List Value} {rows : List (List Int)} {l l' : List Int} (hr : OwnRs w1 B rv vs rows) (ho : OwnI w2 B2 ov l) (hc : OwnI w3 B3 cv l')
    (h12 : w1.heap.size ≤ B2) (h23 : w2.heap.size ≤ B3) (h13 : w1.heap.size ≤ B3) : (ov :: cv :: rv :: vs).Pairwise Apt := by
  refine List.pairwise_cons.2 ⟨fun u hu => ?_, List.pairwise_cons.2 ⟨fun u hu => ?_, hr.apart⟩⟩
  · rcases List.mem_cons.1 hu with rfl | hu
    · exact Apt.ofLt ho.lt fun b hb => Nat.le_trans h23 (hc.ge b hb)
    · exact (Apt.ofLt (fun b hb => (hr.bd u hu b hb).2) fun b hb => Nat.le_trans h12 (ho.ge b hb)).symm
  · exact (Apt.ofLt (fun b hb => (hr.bd u hu b hb).2) fun b hb => Nat.le_trans h13 (hc.ge b hb)).symm
def RetGb (w : World) (g : Gb) (e : Ending) (w' : World) : Prop := ∃ rv ov cv vs, e = .returned (gbV rv ov cv) ∧ OwnGb w' w.heap.size rv ov cv vs g ∧ Below w.heap.size w w'

theorem ret_int {k : IntKind} {a b : Int} (h : a = b) : Ending.returned (.int k a) = .returned (.int k b) := by rw [h]
theorem Blk.only {w w' : World} {g : Nat} {t : TypeId} {cs : Array Value} {F : List Value} (h : Blk w g t cs) (ho : Only F w w') (hF : ∀ u ∈ F, ∀ b, u.ownBlock = some b → b < g) : Blk w' g t cs :=
  (ho.2 g h.lt fun u hu e => by have := hF u hu g e; omega).trans h
theorem Only.allocFirst {w w' : World} {o : Obj} {F : List Value} (h : Only F (w.alloc o) w') : Only F w w' := (Only.ofBelow ((Below.refl w.heap.size w).alloc (Nat.le_refl _) o) (Nat.le_refl _)).trans h
def szGM (left : Int) (g : Gb) : Int := if left - g.sz < 0 then -1 else left - g.sz
theorem szGM_bd {left : Int} {g : Gb} (h : ¬ szGM left g < 0) : szGM left g = left - g.sz ∧ 0 ≤ left - (g.sz : Int) := by
  unfold szGM at h ⊢
  split at h
  · omega
  · rename_i h2; rw [if_neg h2]; omega
theorem szM_not {left : Int} {n : Nat} (h : ¬ szM left n < 0) : szM left n = left - n ∧ 0 ≤ left - (n : Int) := by
  unfold szM at h ⊢
  split at h
  · omega
  · rename_i h2; rw [if_neg h2]; omega

theorem c_laws_eqGarbled {ra oa ca rb ob cb : Value} {g : Gb} {w : World} (ha : GbIn w ra oa ca g) (hb : GbIn w rb ob cb g) (hs : g.sz ≤ 2097152) :
    Calls Try.prog 32 #[gbV ra oa ca, gbV rb ob cb] w fun e w' => e = .returned (.bool true) ∧ Below w.heap.size w w' := by
  have hrl : g.rows.length ≤ 2097152 := by unfold Gb.sz at hs; omega
  have hol : g.ones.length ≤ 2097152 := by unfold Gb.sz at hs; omega
  have hcl : g.cols.length ≤ 2097152 := by unfold Gb.sz at hs; omega
  have HRL := Lib.hid (Gb.row_le hs)
  have HA := Lib.hid ha
  have HB := Lib.hid hb
  obtain ⟨hr, ho, hc⟩ := ha
  obtain ⟨A, c, rfl, -⟩ := hr.form
  obtain ⟨A1, c1, rfl, -⟩ := ho
  obtain ⟨A2, c2, rfl, -⟩ := hc
  clear hr
  obtain ⟨hr, ho, hc⟩ := hb
  obtain ⟨B, d, rfl, -⟩ := hr.form
  obtain ⟨B1, d1, rfl, -⟩ := ho
  obtain ⟨B2, d2, rfl, -⟩ := hc
  clear hr
  unfold gbV
  go_enter Try.func32, Try.ntmps32
  go_wp2_with fail
  refine (c_laws_eqIntSS ((HA.out.alloc _).alloc _).rows ((HB.out.alloc _).alloc _).rows hrl HRL.out).mono ?_
  rintro e w1 ⟨rfl, hb1⟩
  obtain ⟨hc1, hf1⟩ := bcell hb1
  have hy1 : w.heap.size + 1 < w1.heap.size := by have := hb1.size; simp at this; omega
  have hx1 : w.heap.size < w1.heap.size := by omega
  have HB1 := Lib.hid (lit_trans (lit_trans hb1))
  clear hb1
  go_wp2_with fail
  refine (c_laws_eqIntS (HA.out.below HB1.out).ones (HB.out.below HB1.out).ones hol).mono ?_
  rintro e w2 ⟨rfl, hb2⟩
  obtain ⟨hc2, hf2⟩ := bcell hb2
  have HB2 := Lib.hid (below_step HB1.out hb2)
  clear hb2
  go_wp2_with fail
  refine (c_laws_eqIntS (HA.out.below HB2.out).cols (HB.out.below HB2.out).cols hcl).mono ?_
  rintro e w3 ⟨rfl, hb3⟩
  have HB3 := Lib.hid (below_step HB2.out hb3)
  clear hb3
  go_wp2
  go_ret
  exact ⟨rfl, HB3.out⟩

theorem c_laws_heldGarbled {rv ov cv : Value} {g : Gb} {w : World} {k : Int} (h : GbIn w rv ov cv (marksG k g)) (hs : g.sz ≤ 2097152) (hk : 0 ≤ k ∧ k ≤ 800000000) :
    Calls Try.prog 34 #[gbV rv ov cv, .int .i64 k] w fun e w' => e = .returned (.int .i64 (k + g.cnt)) ∧ Below w.heap.size w w' := by
  have hrl : g.rows.length ≤ 2097152 := by unfold Gb.sz at hs; omega
  have hcn : cntR g.rows ≤ 2097152 := by unfold Gb.sz at hs; omega
  have hol : g.ones.length ≤ 2097152 := by unfold Gb.sz at hs; omega
  have hcl : g.cols.length ≤ 2097152 := by unfold Gb.sz at hs; omega
  have H := Lib.hid h
  obtain ⟨hr, ho, hc⟩ := h
  obtain ⟨A, c, rfl, -⟩ := hr.form
  obtain ⟨A1, c1, rfl, -⟩ := ho
  obtain ⟨A2, c2, rfl, -⟩ := hc
  clear hr
  unfold gbV
  have HL := Lib.hid (show (marksG k g).rows.length = g.rows.length from marksR_length _ _)
  have HL1 := Lib.hid (show (marksG k g).ones.length = g.ones.length from marks_length _ _)
  have HL2 := Lib.hid (show (marksG k g).cols.length = g.cols.length from marks_length _ _)
  go_enter Try.func34, Try.ntmps34
  go_wp2_with fail
  refine (c_laws_heldIntSS (rows := g.rows) (H.out.alloc _).rows hrl hcn (by omega)).mono ?_
  rintro e w' ⟨rfl, rfl⟩
  go_wp2_with fail
  refine (c_laws_heldIntS (n := g.ones.length) (H.out.alloc _).ones hol (by omega)).mono ?_
  rintro e w' ⟨rfl, rfl⟩
  go_wp2_with fail
  refine (c_laws_heldIntS (n := g.cols.length) (H.out.alloc _).cols hcl (by omega)).mono ?_
  rintro e w' ⟨rfl, rfl⟩
  go_wp2
  go_ret
  exact ⟨ret_int (by unfold Gb.cnt; omega), (Below.refl _ _).alloc (Nat.le_refl _) _⟩

set_option maxHeartbeats 400000 in
theorem c_laws_markGarbled {rv ov cv : Value} {vs : List Value} {g : Gb} {w : World} {B : Nat} {k : Int} (h : OwnGb w B rv ov cv vs g) (hs : g.sz ≤ 2097152) (hk : 0 ≤ k ∧ k ≤ 800000000) :
    Calls Try.prog 33 #[gbV rv ov cv, .int .i64 k] w fun e w' => e = .returned (.int .i64 (k + g.cnt)) ∧ OwnGb w' B rv ov cv vs (marksG k g) ∧ Only (ov :: cv :: rv :: vs) w w' := by
  have hrl : g.rows.length ≤ 2097152 := by unfold Gb.sz at hs; omega
  have hcn : cntR g.rows ≤ 2097152 := by unfold Gb.sz at hs; omega
  have hol : g.ones.length ≤ 2097152 := by unfold Gb.sz at hs; omega
  have hcl : g.cols.length ≤ 2097152 := by unfold Gb.sz at hs; omega
  have H := Lib.hid h
  obtain ⟨A, c, rfl, -⟩ := h.rows.rowsIn.form
  obtain ⟨A1, c1, rfl, -⟩ := h.ones.ints
  obtain ⟨A2, c2, rfl, -⟩ := h.cols.ints
  have HBD := Lib.hid h.bd
  have hap := List.pairwise_cons.1 h.apart
  have HAP1 := Lib.hid hap.1
  have HAP2 := Lib.hid (List.pairwise_cons.1 hap.2).1
  clear h hap
  unfold gbV
  have H0 := Lib.hid (H.out.below ((Below.refl w.heap.size w).alloc (Nat.le_refl _) (.cells #[.slice A g.rows.length c, .slice A1 g.ones.length c1, .slice A2 g.cols.length c2] 49)))
  have HX := Lib.hid (Blk.new w 49 #[.slice A g.rows.length c, .slice A1 g.ones.length c1, .slice A2 g.cols.length c2])
  go_enter Try.func33, Try.ntmps33
  go_wp2_with fail
  refine (c_laws_markIntSS H0.out.rows hrl hcn (by omega)).mono ?_
  rintro e w1 ⟨rfl, ho1, hg1⟩
  have HX1 := Lib.hid (HX.out.only hg1 fun u hu b hb => (HBD.out u (by simp only [List.mem_cons] at hu ⊢; exact .inr (.inr hu)) b hb).2)
  have HO1 := Lib.hid ho1
  have HP1 := Lib.hid (H0.out.ones.only hg1 fun u hu => (HAP1.out u (List.mem_cons_of_mem _ hu)).symm)
  have HQ1 := Lib.hid (H0.out.cols.only hg1 fun u hu => (HAP2.out u hu).symm)
  have HG1 := Lib.hid hg1
  have x1 : w1.cell? ⟨w.heap.size, 1, none⟩ = some (.slice A1 g.ones.length c1) := HX1.out.cell 1
  clear ho1 hg1
  go_wp2_with fail
  refine (c_laws_markIntS HP1.out hol (by omega)).mono ?_
  rintro e w2 ⟨rfl, hm2, hg2⟩
  have HG2 := Lib.hid (Only.ofGrown (F := [.slice A1 g.ones.length c1]) hg2 (by simp))
  have HX2 := Lib.hid (HX1.out.only HG2.out fun u hu b hb => (HBD.out u (by simp at hu; simp [hu]) b hb).2)
  have HO2 := Lib.hid (HO1.out.only HG2.out fun u hu u' hu' => by simp at hu; subst hu; exact HAP1.out u' (List.mem_cons_of_mem _ hu'))
  have HQ2 := Lib.hid (HQ1.out.only HG2.out fun u hu => by simp at hu; subst hu; exact HAP1.out _ (by simp))
  have HM2 := Lib.hid hm2
  have x2 : w2.cell? ⟨w.heap.size, 2, none⟩ = some (.slice A2 g.cols.length c2) := HX2.out.cell 2
  clear hm2 hg2
  go_wp2_with fail
  refine (c_laws_markIntS HQ2.out hcl (by omega)).mono ?_
  rintro e w3 ⟨rfl, hm3, hg3⟩
  have HG3 := Lib.hid (Only.ofGrown (F := [.slice A2 g.cols.length c2]) hg3 (by simp))
  have HO3 := Lib.hid (HO2.out.only HG3.out fun u hu u' hu' => by simp at hu; subst hu; exact HAP2.out u' hu')
  have HM3 := Lib.hid (HM2.out.only HG3.out fun u hu => by simp at hu; subst hu; exact (HAP1.out _ (by simp)).symm)
  have HN3 := Lib.hid hm3
  clear hm3 hg3
  go_wp2
  go_ret
  refine ⟨ret_int (by unfold Gb.cnt; omega), ⟨HO3.out, HM3.out, HN3.out, H.out.apart⟩, ?_⟩
  refine Only.allocFirst ((HG1.out.sub fun u hu => ?_).trans ((HG2.out.sub fun u hu => ?_).trans (HG3.out.sub fun u hu => ?_)))
  · exact List.mem_cons_of_mem _ (List.mem_cons_of_mem _ hu)
  · simp at hu; simp [hu]
  · simp at hu; simp [hu]
theorem c_laws_eqHalved {ra oa ca rb ob cb : Value} {g : Gb} {w : World} (ha : GbIn w ra oa ca g) (hb : GbIn w rb ob cb g) (hs : g.sz ≤ 2097152) :
    Calls Try.prog 27 #[gbV ra oa ca, gbV rb ob cb] w fun e w' => e = .returned (.bool true) ∧ Below w.heap.size w w' := by
  have hrl : g.rows.length ≤ 2097152 := by unfold Gb.sz at hs; omega
  have hol : g.ones.length ≤ 2097152 := by unfold Gb.sz at hs; omega
  have hcl : g.cols.length ≤ 2097152 := by unfold Gb.sz at hs; omega
  have HRL := Lib.hid (Gb.row_le hs)
  have HA := Lib.hid ha
  have HB := Lib.hid hb
  obtain ⟨hr, ho, hc⟩ := ha
  obtain ⟨A, c, rfl, -⟩ := hr.form
  obtain ⟨A1, c1, rfl, -⟩ := ho
  obtain ⟨A2, c2, rfl, -⟩ := hc
  clear hr
  obtain ⟨hr, ho, hc⟩ := hb
  obtain ⟨B, d, rfl, -⟩ := hr.form
  obtain ⟨B1, d1, rfl, -⟩ := ho
  obtain ⟨B2, d2, rfl, -⟩ := hc
  clear hr
  unfold gbV
  go_enter Try.func27, Try.ntmps27
  go_wp2_with fail
  refine (c_laws_eqIntSS ((HA.out.alloc _).alloc _).rows ((HB.out.alloc _).alloc _).rows hrl HRL.out).mono ?_
  rintro e w1 ⟨rfl, hb1⟩
  obtain ⟨hc1, hf1⟩ := bcell hb1
  have hy1 : w.heap.size + 1 < w1.heap.size := by have := hb1.size; simp at this; omega
  have hx1 : w.heap.size < w1.heap.size := by omega
  have HB1 := Lib.hid (lit_trans (lit_trans hb1))
  clear hb1
  go_wp2_with fail
  refine (c_laws_eqIntS (HA.out.below HB1.out).ones (HB.out.below HB1.out).ones hol).mono ?_
  rintro e w2 ⟨rfl, hb2⟩
  obtain ⟨hc2, hf2⟩ := bcell hb2
  have HB2 := Lib.hid (below_step HB1.out hb2)
  clear hb2
  go_wp2_with fail
  refine (c_laws_eqIntS (HA.out.below HB2.out).cols (HB.out.below HB2.out).cols hcl).mono ?_
  rintro e w3 ⟨rfl, hb3⟩
  have HB3 := Lib.hid (below_step HB2.out hb3)
  clear hb3
  go_wp2
  go_ret
  exact ⟨rfl, HB3.out⟩

theorem c_laws_heldHalved {rv ov cv : Value} {g : Gb} {w : World} {k : Int} (h : GbIn w rv ov cv (marksG k g)) (hs : g.sz ≤ 2097152) (hk : 0 ≤ k ∧ k ≤ 800000000) :
    Calls Try.prog 29 #[gbV rv ov cv, .int .i64 k] w fun e w' => e = .returned (.int .i64 (k + g.cnt)) ∧ Below w.heap.size w w' := by
  have hrl : g.rows.length ≤ 2097152 := by unfold Gb.sz at hs; omega
  have hcn : cntR g.rows ≤ 2097152 := by unfold Gb.sz at hs; omega
  have hol : g.ones.length ≤ 2097152 := by unfold Gb.sz at hs; omega
  have hcl : g.cols.length ≤ 2097152 := by unfold Gb.sz at hs; omega
  have H := Lib.hid h
  obtain ⟨hr, ho, hc⟩ := h
  obtain ⟨A, c, rfl, -⟩ := hr.form
  obtain ⟨A1, c1, rfl, -⟩ := ho
  obtain ⟨A2, c2, rfl, -⟩ := hc
  clear hr
  unfold gbV
  have HL := Lib.hid (show (marksG k g).rows.length = g.rows.length from marksR_length _ _)
  have HL1 := Lib.hid (show (marksG k g).ones.length = g.ones.length from marks_length _ _)
  have HL2 := Lib.hid (show (marksG k g).cols.length = g.cols.length from marks_length _ _)
  go_enter Try.func29, Try.ntmps29
  go_wp2_with fail
  refine (c_laws_heldIntSS (rows := g.rows) (H.out.alloc _).rows hrl hcn (by omega)).mono ?_
  rintro e w' ⟨rfl, rfl⟩
  go_wp2_with fail
  refine (c_laws_heldIntS (n := g.ones.length) (H.out.alloc _).ones hol (by omega)).mono ?_
  rintro e w' ⟨rfl, rfl⟩
  go_wp2_with fail
  refine (c_laws_heldIntS (n := g.cols.length) (H.out.alloc _).cols hcl (by omega)).mono ?_
  rintro e w' ⟨rfl, rfl⟩
  go_wp2
  go_ret
  exact ⟨ret_int (by unfold Gb.cnt; omega), (Below.refl _ _).alloc (Nat.le_refl _) _⟩

set_option maxHeartbeats 400000 in
theorem c_laws_markHalved {rv ov cv : Value} {vs : List Value} {g : Gb} {w : World} {B : Nat} {k : Int} (h : OwnGb w B rv ov cv vs g) (hs : g.sz ≤ 2097152) (hk : 0 ≤ k ∧ k ≤ 800000000) :
    Calls Try.prog 28 #[gbV rv ov cv, .int .i64 k] w fun e w' => e = .returned (.int .i64 (k + g.cnt)) ∧ OwnGb w' B rv ov cv vs (marksG k g) ∧ Only (ov :: cv :: rv :: vs) w w' := by
  have hrl : g.rows.length ≤ 2097152 := by unfold Gb.sz at hs; omega
  have hcn : cntR g.rows ≤ 2097152 := by unfold Gb.sz at hs; omega
  have hol : g.ones.length ≤ 2097152 := by unfold Gb.sz at hs; omega
  have hcl : g.cols.length ≤ 2097152 := by unfold Gb.sz at hs; omega
  have H := Lib.hid h
  obtain ⟨A, c, rfl, -⟩ := h.rows.rowsIn.form
  obtain ⟨A1, c1, rfl, -⟩ := h.ones.ints
  obtain ⟨A2, c2, rfl, -⟩ := h.cols.ints
  have HBD := Lib.hid h.bd
  have hap := List.pairwise_cons.1 h.apart
  have HAP1 := Lib.hid hap.1
  have HAP2 := Lib.hid (List.pairwise_cons.1 hap.2).1
  clear h hap
  unfold gbV
  have H0 := Lib.hid (H.out.below ((Below.refl w.heap.size w).alloc (Nat.le_refl _) (.cells #[.slice A g.rows.length c, .slice A1 g.ones.length c1, .slice A2 g.cols.length c2] 44)))
  have HX := Lib.hid (Blk.new w 44 #[.slice A g.rows.length c, .slice A1 g.ones.length c1, .slice A2 g.cols.length c2])
  go_enter Try.func28, Try.ntmps28
  go_wp2_with fail
  refine (c_laws_markIntSS H0.out.rows hrl hcn (by omega)).mono ?_
  rintro e w1 ⟨rfl, ho1, hg1⟩
  have HX1 := Lib.hid (HX.out.only hg1 fun u hu b hb => (HBD.out u (by simp only [List.mem_cons] at hu ⊢; exact .inr (.inr hu)) b hb).2)
  have HO1 := Lib.hid ho1
  have HP1 := Lib.hid (H0.out.ones.only hg1 fun u hu => (HAP1.out u (List.mem_cons_of_mem _ hu)).symm)
  have HQ1 := Lib.hid (H0.out.cols.only hg1 fun u hu => (HAP2.out u hu).symm)
  have HG1 := Lib.hid hg1
  have x1 : w1.cell? ⟨w.heap.size, 1, none⟩ = some (.slice A1 g.ones.length c1) := HX1.out.cell 1
  clear ho1 hg1
  go_wp2_with fail
  refine (c_laws_markIntS HP1.out hol (by omega)).mono ?_
  rintro e w2 ⟨rfl, hm2, hg2⟩
  have HG2 := Lib.hid (Only.ofGrown (F := [.slice A1 g.ones.length c1]) hg2 (by simp))
  have HX2 := Lib.hid (HX1.out.only HG2.out fun u hu b hb => (HBD.out u (by simp at hu; simp [hu]) b hb).2)
  have HO2 := Lib.hid (HO1.out.only HG2.out fun u hu u' hu' => by simp at hu; subst hu; exact HAP1.out u' (List.mem_cons_of_mem _ hu'))
  have HQ2 := Lib.hid (HQ1.out.only HG2.out fun u hu => by simp at hu; subst hu; exact HAP1.out _ (by simp))
  have HM2 := Lib.hid hm2
  have x2 : w2.cell? ⟨w.heap.size, 2, none⟩ = some (.slice A2 g.cols.length c2) := HX2.out.cell 2
  clear hm2 hg2
  go_wp2_with fail
  refine (c_laws_markIntS HQ2.out hcl (by omega)).mono ?_
  rintro e w3 ⟨rfl, hm3, hg3⟩
  have HG3 := Lib.hid (Only.ofGrown (F := [.slice A2 g.cols.length c2]) hg3 (by simp))
  have HO3 := Lib.hid (HO2.out.only HG3.out fun u hu u' hu' => by simp at hu; subst hu; exact HAP2.out u' hu')
  have HM3 := Lib.hid (HM2.out.only HG3.out fun u hu => by simp at hu; subst hu; exact (HAP1.out _ (by simp)).symm)
  have HN3 := Lib.hid hm3
  clear hm3 hg3
  go_wp2
  go_ret
  refine ⟨ret_int (by unfold Gb.cnt; omega), ⟨HO3.out, HM3.out, HN3.out, H.out.apart⟩, ?_⟩
  refine Only.allocFirst ((HG1.out.sub fun u hu => ?_).trans ((HG2.out.sub fun u hu => ?_).trans (HG3.out.sub fun u hu => ?_)))
  · exact List.mem_cons_of_mem _ (List.mem_cons_of_mem _ hu)
  · simp at hu; simp [hu]
  · simp at hu; simp [hu]
end Go.Proofs.Ytllaojfgenopbaa
