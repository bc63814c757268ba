/- Contracts of the labels of inputs. Conditions: the lists are short. -/
import Derived.Test.YtejeppjmlgfiaaaGreatInp
namespace Go.Proofs.YtejeppjmlgfiaaaGreat
open Go.RowKit
set_option linter.unusedVariables false

def lbInM (key r : Int) (l : List Int) : List Int := l.mapIdx fun i b => xorI (digM [key, (i : Int), 13, 0]) (r * b)
theorem lbInM_length (key r : Int) (l : List Int) : (lbInM key r l).length = l.length := by simp [lbInM]
theorem lbInM_snoc {key r : Int} {l : List Int} {k : Nat} {x : Int} (h : l[k]? = some x) : lbInM key r (l.take (k + 1)) = lbInM key r (l.take k) ++ [xorI (digM [key, (k : Int), 13, 0]) (r * x)] := by
  have hk : k < l.length := (List.getElem?_eq_some_iff.1 h).1
  rw [take_snoc h]
  unfold lbInM
  rw [List.mapIdx_append]
  simp [Nat.min_eq_left (Nat.le_of_lt hk)]
def inputM (c : Cir) (key r : Int) (a b : List Int) : Option (List Int) := if askedB c a b && inB key 0 1000000000 && offB r then some (lbInM key r (a ++ b)) else none
theorem apt_app {J u v' : Value} {wr : World} (ha : Apt u J) (hJ : ∀ g, J.ownBlock = some g → g < wr.heap.size) (hfr : ∀ g, v'.ownBlock = some g → u.ownBlock = some g ∨ wr.heap.size ≤ g) : Apt v' J := fun g hg e => by
  rcases hfr g hg with h | h
  · exact ha g h e
  · have := hJ g e; omega
theorem bit_cases {l : List Int} {x : Int} (h : allB l 0 1 = true) (hx : x ∈ l) : x = 0 ∨ x = 1 := by have := allB_bd h x hx; omega
theorem label_xor {z r b : Int} (hz : 0 ≤ z ∧ z ≤ 65535) (hr : 0 ≤ r ∧ r ≤ 65535) (hb : b = 0 ∨ b = 1) : bits .xor .i64 z (b * r) = xorI z (r * b) := by
  rw [Int.mul_comm b r]
  rcases hb with rfl | rfl
  · exact bits_xor hz.1 (by omega) (by omega) (by omega)
  · rw [Int.mul_one]; exact bits_xor hz.1 hr.1 (by omega) (by omega)

set_option maxHeartbeats 400000 in
theorem c_spec_lbInputs {v : Value} {l : List Int} {w : World} {key r : Int} (h : Ints w v l) (hl : l.length ≤ 1000) (hb : allB l 0 1 = true) (hk : 0 ≤ key ∧ key ≤ 1000000000) (hr : 0 ≤ r ∧ r ≤ 65535) :
    Calls Tryz.prog 65 #[.int .i64 key, .int .i64 r, v] w (RetI w (lbInM key r l)) := by
  obtain ⟨A, c, rfl, hlc, hcm, hrd⟩ := h
  go_enter Tryz.func65, Tryz.ntmps65
  go_wp2
  go_loopw [7, 12] (fun u i wr => ∃ k : Nat, k ≤ l.length ∧ i = .int .i64 k ∧ OwnI wr w.heap.size u (lbInM key r (l.take k)) ∧ Hid (Below w.heap.size w wr)) (fun _ i _ => l.length - (intOf i).toNat)
  case atStart => exact ⟨0, Nat.zero_le _, rfl, OwnI.nil _ _, Below.refl _ _⟩
  case round =>
    obtain ⟨k, hk2, rfl, hown, HBW⟩ := hrel
    by_cases hlt : k < l.length
    · obtain ⟨b, o, x, rfl, hbl, hxk, hcell⟩ := (hrd.below HBW.out).int_at hlt
      have hx := bit_cases hb (List.mem_of_getElem? hxk)
      have HT := Lib.hid (lbInM_snoc (key := key) (r := r) hxk)
      have hlen : (lbInM key r (l.take k)).length ≤ l.length := by rw [lbInM_length]; simp; omega
      have HO := Lib.hid hown
      clear hxk hown
      go_wp2_with fail
      refine (c_spec_lbZero (by omega) (by omega)).mono ?_
      rintro e w1 ⟨rfl, hb1⟩
      have hdb := digM_bd [key, (k : Int), 13, 0]
      generalize digM [key, (k : Int), 13, 0] = z at *
      have hxor := label_xor hdb hr hx
      have hxr : -9223372036854775808 ≤ x * r ∧ x * r ≤ 9223372036854775807 := by rcases hx with rfl | rfl <;> omega
      have HB1 := Lib.hid (below_step HBW.out hb1)
      have hown := HO.out.below hb1
      have hsz := HB1.out.size
      clear hb1
      go_wp2_with (at_builtin; refine wp_app1 (B := w.heap.size) rfl rfl Tryz.underlying24 info_int rfl hown rfl rfl rfl (by unfold maxLen; omega) (by omega) hsz ?_; intro v' w2 ho hg hfr)
      have HB := Lib.hid (below_app HB1.out hown hg (Nat.le_refl _))
      clear hxor
      go_roundw
      case rel => exact ⟨k + 1, by omega, by go_num, by rw [HT.out]; exact OwnI.snoc ho, HB⟩
      case measure => simp [intOf]; omega
    · have HE := Lib.hid (show l.take k = l from List.take_of_length_le (by omega))
      have HO := Lib.hid hown
      clear hown
      go_wp2
      go_ret
      exact RetI.mk (by have := HO.out; rw [HE.out] at this; exact this) HBW.out
set_option maxHeartbeats 800000 in
theorem c_impl_InputLabels {c : Cir} {gv ov va vb : Value} {a b : List Int} {w : World} {key r : Int} (h : CirIn w gv ov c) (ha : Ints w va a) (hb : Ints w vb b) (hla : a.length ≤ 1048576) (hlb : b.length ≤ 1048576) :
    Calls Tryz.prog 20 #[cirV c gv ov, .int .i64 key, .int .i64 r, va, vb] w (RetIB w (inputM c key r a b)) := by
  have H := Lib.hid h
  have HA := Lib.hid ha
  have HV := Lib.hid hb
  obtain ⟨hg, ho⟩ := h
  obtain ⟨A, cg, rfl, -⟩ := hg
  obtain ⟨A', co, rfl, -⟩ := ho
  clear ha hb
  unfold cirV
  go_enter Tryz.func20, Tryz.ntmps20
  go_wp2_with fail
  refine (c_impl_areInputs (H.out.alloc _) (HA.out.alloc _) (HV.out.alloc _) hla hlb).mono ?_
  rintro e w1 ⟨rfl, hb1⟩
  have HB := Lib.hid (lit_trans hb1)
  clear hb1
  rcases h1 : askedB c a b with _ | _
  · have HM := Lib.hid (show inputM c key r a b = none by simp [inputM, h1])
    go_wp2
    go_ret2; rw [HM.out]; exact RetIB.no_below HB.out
  have HQ := Lib.hid h1
  clear h1
  rcases h2 : inB key 0 1000000000 with _ | _
  · have HM := Lib.hid (show inputM c key r a b = none by simp [inputM, h2])
    go_wp2_with (go_at_call 79; refine (c_impl_isKey).mono ?_; rintro e w' ⟨rfl, rfl⟩)
    go_ret2; rw [HM.out]; exact RetIB.no_below HB.out
  rcases h3 : offB r with _ | _
  · have HM := Lib.hid (show inputM c key r a b = none by simp [inputM, h3])
    go_wp2_with (first | (go_at_call 79; refine (c_impl_isKey).mono ?_; rintro e w' ⟨rfl, rfl⟩) | (go_at_call 81; refine (c_impl_isOffset).mono ?_; rintro e w' ⟨rfl, rfl⟩))
    go_ret2; rw [HM.out]; exact RetIB.no_below HB.out
  have HM := Lib.hid (show inputM c key r a b = some (lbInM key r (a ++ b)) by simp [inputM, HQ.out, h2, h3])
  have hkb := inB_bd h2
  have hrb := offB_bd h3
  have hr : 0 ≤ r ∧ r ≤ 65535 := ⟨hrb.1, hrb.2.1⟩
  have hq := askedB_of HQ.out
  have hcb := cirB_bd hq.1
  have hla2 : a.length ≤ 20 := by omega
  have hlb2 : b.length ≤ 20 := by omega
  have HAB := Lib.hid (show allB (a ++ b) 0 1 = true by unfold allB; rw [List.all_append]; have h1 := hq.2.1; have h2 := hq.2.2.1; unfold allB at h1 h2; rw [h1, h2]; rfl)
  have hln : (a ++ b).length ≤ 40 := by simp; omega
  have HE0 := Lib.hid ((OwnI.empty (B := w.heap.size) (w := w1) HB.out.size))
  clear hq hcb hrb
  go_wp2_with (first | (go_at_call 79; refine (c_impl_isKey).mono ?_; rintro e w' ⟨rfl, rfl⟩) | (go_at_call 81; refine (c_impl_isOffset).mono ?_; rintro e w' ⟨rfl, rfl⟩))
  refine (c_impl_with ((HA.out.below HB.out).alloc _) ((HV.out.below HB.out).alloc _) hla hlb).mono ?_
  rintro e w2 ⟨u, rfl, hu, hb2⟩
  have HB2 := Lib.hid (HB.out.trans ((lit_trans hb2).mono HB.out.size))
  have HE := Lib.hid (HE0.out.below hb2)
  have HJ := Lib.hid hu
  have HAP := Lib.hid (show Apt (.slice (some ⟨w1.heap.size, 0, none⟩) 0 0) u from Apt.ofLt (N := w1.heap.size + 1) (fun g hg => by cases hg; exact Nat.lt_succ_self _) (fun g hg => by have := hu.ge g hg; simpa using this))
  obtain ⟨AJ, cJ, rfl, -⟩ := hu.ints
  clear hb2 HE0 hu
  generalize hL : a ++ b = L at *
  go_wp2
  go_loopw [12, 35] (fun o i wr => ∃ k : Nat, k ≤ L.length ∧ i = .int .i64 k ∧ OwnI wr w.heap.size o (lbInM key r (L.take k)) ∧ Hid (OwnI wr w.heap.size (.slice AJ L.length cJ) L) ∧ Hid (Apt o (.slice AJ L.length cJ)) ∧ Hid (Below w.heap.size w wr)) (fun _ i _ => L.length - (intOf i).toNat)
  case atStart => exact ⟨0, Nat.zero_le _, rfl, HE.out, Lib.hid (HJ.out.mono (Nat.le_trans HB.out.size (by simp))), HAP, HB2⟩
  case round =>
    obtain ⟨k, hk2, rfl, hown, HJ, HAP, HBW⟩ := hrel
    by_cases hlt : k < L.length
    · obtain ⟨A9, c9, e9, _, _, hrd⟩ := HJ.out.ints
      injection e9 with e1 e2 e3
      subst e1
      obtain ⟨b, o, x, rfl, hbl, hxk, hcell⟩ := hrd.int_at hlt
      have hx := bit_cases HAB.out (List.mem_of_getElem? hxk)
      have HT := Lib.hid (lbInM_snoc (key := key) (r := r) hxk)
      have hlen : (lbInM key r (L.take k)).length ≤ L.length := by rw [lbInM_length]; simp; omega
      have HO := Lib.hid hown
      clear hxk hown hrd e2 e3
      go_wp2_with fail
      refine (c_impl_zeroLabel (by omega) (by omega)).mono ?_
      rintro e w3 ⟨rfl, hb1⟩
      have hdb := digM_bd [key, (k : Int), 13, 0]
      generalize digM [key, (k : Int), 13, 0] = z at *
      have HB1 := Lib.hid (below_step HBW.out hb1)
      have hown := HO.out.below hb1
      have HJ1 := Lib.hid (HJ.out.below hb1)
      have hsz := HB1.out.size
      clear hb1
      go_wp2_with fail
      refine (c_impl_labelOf hdb hr hx).mono ?_
      rintro e w' ⟨rfl, rfl⟩
      go_wp2_with (at_builtin; refine wp_app1 (B := w.heap.size) rfl rfl Tryz.underlying24 info_int rfl hown rfl rfl rfl (by unfold maxLen; omega) (by omega) hsz ?_; intro v' w4 ho hg hfr)
      have HB := Lib.hid (below_app HB1.out hown hg (Nat.le_refl _))
      have HJ2 := Lib.hid (HJ1.out.grown hg (fun g hg' e => HAP.out g e.symm hg'))
      have HA2 := Lib.hid (apt_app HAP.out HJ1.out.lt hfr)
      go_roundw
      case rel => exact ⟨k + 1, by omega, by go_num, by rw [HT.out]; exact OwnI.snoc ho, HJ2, HA2, HB⟩
      case measure => simp [intOf]; omega
    · have HE := Lib.hid (show L.take k = L from List.take_of_length_le (by omega))
      have HO := Lib.hid hown
      clear hown
      go_wp2
      go_ret2
      rw [HM.out]
      exact RetIB.yes (by have := HO.out; rw [HE.out] at this; exact this) HBW.out
theorem inputM_len (c : Cir) (key r : Int) (a b : List Int) : ((inputM c key r a b).getD []).length ≤ 40 := by
  unfold inputM; split
  · rename_i h
    simp only [Bool.and_eq_true] at h
    have hq := askedB_of h.1.1
    have hcb := cirB_bd hq.1
    simp [lbInM_length]; omega
  · simp
end Go.Proofs.YtejeppjmlgfiaaaGreat
