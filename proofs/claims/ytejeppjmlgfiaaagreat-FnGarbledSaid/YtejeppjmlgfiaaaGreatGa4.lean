/- Garbled and halved circuits compute the circuit's values: the label of each wire is its zero label, shifted by the offset where the value is one. Plain law. -/
import Derived.Test.YtejeppjmlgfiaaaGreatZer
import Derived.Test.YtejeppjmlgfiaaaGreatInpL
import Derived.Test.YtejeppjmlgfiaaaGreatGa3
import Derived.Test.YtejeppjmlgfiaaaGreatEv
import Derived.Test.YtejeppjmlgfiaaaGreatSta
import Derived.Deep.RegionHeld3
import Derived.Test.YtejeppjmlgfiaaaGreatTabS
import Derived.Test.YtejeppjmlgfiaaaGreatLabG
namespace Go.Proofs.YtejeppjmlgfiaaaGreat
open Go.RowKit
set_option linter.unusedVariables false

theorem xorI_ext {a b c d : Int} (h : a.toNat ^^^ b.toNat = c.toNat ^^^ d.toNat) : xorI a b = xorI c d := by unfold xorI; rw [h]
theorem xor_colour {off x u : Int} (hr : 0 ≤ off ∧ off ≤ 65535 ∧ off % 2 = 1) (hx : 0 ≤ x) (hu : u = 0 ∨ u = 1) : xorI x (off * u) % 2 = xorI (x % 2) u := by
  have h := xorI_mod2 hx (off_bit ⟨hr.1, hr.2.1⟩ hu).1
  rw [h]
  rcases hu with rfl | rfl <;> rcases bit2 x with e | e <;> rw [e]
  · rw [show xorI 0 0 = 0 by decide]; omega
  · rw [show xorI 1 0 = 1 by decide]; omega
  · rw [show xorI 0 1 = 1 by decide]; omega
  · rw [show xorI 1 1 = 0 by decide]; omega
theorem xor_again {a b : Int} (ha : a = 0 ∨ a = 1) (hb : b = 0 ∨ b = 1) : xorI a (xorI a b) = b := by
  rcases ha with rfl | rfl <;> rcases hb with rfl | rfl <;> decide
/-- What a gate GtAnd does to labels. -/
def AndOk (off : Int) (F : Int → Int → Int → List Int → Int) (Z : Int → Int → Int → Int) (R : Int → Int → Int → List Int) : Prop :=
  ∀ w x y u v, (0 ≤ x ∧ x ≤ 65535) → (0 ≤ y ∧ y ≤ 65535) → (u = 0 ∨ u = 1) → (v = 0 ∨ v = 1) → F w (xorI x (off * u)) (xorI y (off * v)) (R w x y) = xorI (Z w x y) (off * (u * v))
theorem gb_and {off : Int} (hr : 0 ≤ off ∧ off ≤ 65535 ∧ off % 2 = 1) : AndOk off openM (gbZ off) (gbR off) := by
  intro w x y u v hx hy hu hv
  have ex := xor_colour hr hx.1 hu
  have ey := xor_colour hr hy.1 hv
  have hp := xor_bit (bit2 x) hu
  have hq := xor_bit (bit2 y) hv
  have gu := xor_again (bit2 x) hu
  have gv := xor_again (bit2 y) hv
  unfold openM
  rw [ex, ey]
  generalize xorI (x % 2) u = p at *
  generalize xorI (y % 2) v = q at *
  have hown : digM [w, 14, xorI x (off * u), xorI y (off * v)] = gbOwnM off w x y p q := by unfold gbOwnM; rw [gu, gv]
  rw [hown]
  have hZ := gbZ_bd ⟨hr.1, hr.2.1⟩ w x y
  have huv := off_bit ⟨hr.1, hr.2.1⟩ (mul_bit hu hv)
  have hz := xorI_bd hZ.1 huv.1 hZ.2 huv.2
  have row : ∀ p q, xorI (x % 2) p = u → xorI (y % 2) q = v → xorI (gbOwnM off w x y p q) (gbRow off w x y p q) = xorI (gbZ off w x y) (off * (u * v)) := by
    intro p q e1 e2
    unfold gbRow
    rw [e1, e2, xorI_left hz.1]
  rcases hp with rfl | rfl <;> rcases hq with rfl | rfl
  · rw [if_neg (by decide)]
    unfold gbZ
    rw [gu, gv, xorI_back (gbOwnM_bd off w x y 0 0).1]
  · rw [if_pos (by decide)]; exact row 0 1 gu gv
  · rw [if_pos (by decide)]; exact row 1 0 gu gv
  · rw [if_pos (by decide)]; exact row 1 1 gu gv
set_option maxHeartbeats 1000000 in
theorem hg_and {off : Int} (hr : 0 ≤ off ∧ off ≤ 65535 ∧ off % 2 = 1) : AndOk off joinM (hgZ off) (hgR off) := by
  intro w x y u v hx hy hu hv
  have ex := xor_colour hr hx.1 hu
  have ey := xor_colour hr hy.1 hv
  unfold joinM hgZ
  rw [ex, ey]
  rw [show elt (hgR off w x y) 0 = hgA off w x y from rfl, show elt (hgR off w x y) 1 = hgB off w x y from rfl]
  unfold hgA hgB
  have z00 : xorI 0 0 = 0 := by decide
  have z01 : xorI 0 1 = 1 := by decide
  have z10 : xorI 1 0 = 1 := by decide
  have z11 : xorI 1 1 = 0 := by decide
  have zx := xorI_zero hx.1
  have zy := xorI_zero hy.1
  rcases hu with rfl | rfl <;> rcases hv with rfl | rfl <;> rcases bit2 x with e | e <;> rcases bit2 y with e' | e' <;> rw [e, e']
  all_goals
    simp only [Int.mul_zero, Int.mul_one, z00, z01, z10, z11, zx, zy]
    refine xorI_ext ?_
    simp only [xorI_toNat, Int.toNat_zero]
    generalize (digM [w, 15, x, 0]).toNat = h0
    generalize (digM [w, 15, xorI x off, 0]).toNat = h1
    generalize (digM [w, 15, y, 1]).toNat = h2
    generalize (digM [w, 15, xorI y off, 1]).toNat = h3
    generalize x.toNat = X
    generalize off.toNat = O
    apply Nat.eq_of_testBit_eq
    intro i
    simp only [Nat.testBit_xor, Nat.zero_testBit]
    generalize h0.testBit i = b0
    generalize h1.testBit i = b1
    generalize h2.testBit i = b2
    generalize h3.testBit i = b3
    generalize X.testBit i = b4
    generalize O.testBit i = b5
    revert b0 b1 b2 b3 b4 b5
    decide

/-- The values of all wires. -/
def vStep (l : List Int) (g : Gt) : List Int :=
  l ++ [if g.k = 0 then xorI (elt l g.a) (elt l g.b) else if g.k = 1 then elt l g.a * elt l g.b else if g.k = 2 then 1 - elt l g.a else 1]
def valsM (inp : List Int) (gs : List Gt) : List Int := gs.foldl vStep inp
theorem vals_snoc {inp : List Int} {gs : List Gt} {k : Nat} {g : Gt} (h : gs[k]? = some g) : valsM inp (gs.take (k + 1)) = vStep (valsM inp (gs.take k)) g := by
  rw [take_snoc h]; simp [valsM]
theorem vals_len (inp : List Int) : ∀ gs : List Gt, (valsM inp gs).length = inp.length + gs.length := by
  have key : ∀ (gs : List Gt) (l : List Int), (gs.foldl vStep l).length = l.length + gs.length := by
    intro gs
    induction gs with
    | nil => intro l; rfl
    | cons g gs ih => intro l; rw [List.foldl_cons, ih]; simp [vStep]; omega
  exact fun gs => key gs inp
theorem elt_bit {l : List Int} (h : ∀ x ∈ l, x = 0 ∨ x = 1) (k : Int) : elt l k = 0 ∨ elt l k = 1 := by
  unfold elt
  by_cases hk : k.toNat < l.length
  · have : l.getD k.toNat 0 = l[k.toNat] := by simp [List.getD, List.getElem?_eq_getElem hk]
    rw [this]; exact h _ (List.getElem_mem hk)
  · left; simp [List.getD, List.getElem?_eq_none (Nat.le_of_not_lt hk)]
theorem vals_bit {inp : List Int} (h : ∀ x ∈ inp, x = 0 ∨ x = 1) : ∀ gs : List Gt, ∀ x ∈ valsM inp gs, x = 0 ∨ x = 1 := by
  have key : ∀ (gs : List Gt) (l : List Int), (∀ x ∈ l, x = 0 ∨ x = 1) → ∀ x ∈ gs.foldl vStep l, x = 0 ∨ x = 1 := by
    intro gs
    induction gs with
    | nil => intro l hl; exact hl
    | cons g gs ih =>
      intro l hl
      refine ih _ fun x hx => ?_
      have ha := elt_bit hl g.a
      have hb := elt_bit hl g.b
      unfold vStep at hx
      rcases List.mem_append.1 hx with h | h
      · exact hl x h
      · simp only [List.mem_singleton] at h
        subst h
        by_cases h0 : g.k = 0
        · rw [if_pos h0]; exact xor_bit ha hb
        · rw [if_neg h0]
          by_cases h1 : g.k = 1
          · rw [if_pos h1]; exact mul_bit ha hb
          · rw [if_neg h1]
            by_cases h2 : g.k = 2
            · rw [if_pos h2]; rcases ha with e | e <;> rw [e] <;> simp
            · rw [if_neg h2]; exact Or.inr rfl
  exact fun gs => key gs inp h
section
variable {F : Int → Int → Int → List Int → Int} {Z : Int → Int → Int → Int} {R : Int → Int → Int → List Int} {key off : Int} {n : Nat} {gs : List Gt} {k : Nat} {g : Gt}
theorem zr_ext2 : ∀ (gs : List Gt) (s : Zr), (∃ t, (gs.foldl (zStep Z R key off) s).rows = s.rows ++ t) ∧ (∃ t, (gs.foldl (zStep Z R key off) s).ones = s.ones ++ t)
  | [], s => ⟨⟨[], by simp⟩, ⟨[], by simp⟩⟩
  | g :: gs, s => by
    obtain ⟨⟨t, ht⟩, ⟨t2, ht2⟩⟩ := zr_ext2 gs (zStep Z R key off s g)
    rw [List.foldl_cons, ht, ht2]
    unfold zStep
    split
    · exact ⟨⟨_, rfl⟩, ⟨_, rfl⟩⟩
    · split
      · exact ⟨⟨_, rfl⟩, ⟨_, rfl⟩⟩
      · split
        · exact ⟨⟨_, rfl⟩, ⟨_, List.append_assoc _ _ _⟩⟩
        · exact ⟨⟨_, List.append_assoc _ _ _⟩, ⟨_, rfl⟩⟩
theorem zr_pref2 (Z : Int → Int → Int → Int) (R : Int → Int → Int → List Int) (key off : Int) (n : Nat) (gs : List Gt) (k : Nat) :
    (∃ t, (zrM Z R key off n gs).rows = (zrM Z R key off n (gs.take k)).rows ++ t) ∧ (∃ t, (zrM Z R key off n gs).ones = (zrM Z R key off n (gs.take k)).ones ++ t) := by
  have h := zr_ext2 (Z := Z) (R := R) (key := key) (off := off) (gs.drop k) (zrM Z R key off n (gs.take k))
  unfold zrM at h ⊢
  rwa [← List.foldl_append, List.take_append_drop] at h
theorem getD_len {α : Type} (l t : List α) (x d : α) (r : List α) (h : r = (l ++ [x]) ++ t) : r.getD l.length d = x := by
  subst h; simp [List.getD]
theorem elt_old {l : List Int} {x : Int} {j : Nat} (h : j < l.length) : elt (l ++ [x]) (j : Int) = elt l (j : Int) := elt_left (by omega) (by omega)
theorem xor_off {off a b u v : Int} (ho : 0 ≤ off ∧ off ≤ 65535) (hu : u = 0 ∨ u = 1) (hv : v = 0 ∨ v = 1) : xorI (xorI a (off * u)) (xorI b (off * v)) = xorI (xorI a b) (off * xorI u v) := by
  have z00 : xorI 0 0 = 0 := by decide
  have z01 : xorI 0 1 = 1 := by decide
  have z10 : xorI 1 0 = 1 := by decide
  have z11 : xorI 1 1 = 0 := by decide
  rcases hu with rfl | rfl <;> rcases hv with rfl | rfl
  all_goals
    simp only [Int.mul_zero, Int.mul_one, z00, z01, z10, z11]
    refine xorI_ext ?_
    simp only [xorI_toNat, Int.toNat_zero]
    generalize a.toNat = A
    generalize b.toNat = B
    generalize off.toNat = O
    apply Nat.eq_of_testBit_eq
    intro i
    simp only [Nat.testBit_xor, Nat.zero_testBit]
    generalize A.testBit i = b0
    generalize B.testBit i = b1
    generalize O.testBit i = b2
    revert b0 b1 b2
    decide
theorem not_off {off a u : Int} (hu : u = 0 ∨ u = 1) : xorI a (off * u) = xorI (xorI a off) (off * (1 - u)) := by
  rcases hu with rfl | rfl
  all_goals
    simp only [Int.mul_zero, Int.mul_one, Int.sub_zero, Int.sub_self]
    refine xorI_ext ?_
    simp only [xorI_toNat, Int.toNat_zero]
    generalize a.toNat = A
    generalize off.toNat = O
    apply Nat.eq_of_testBit_eq
    intro i
    simp only [Nat.testBit_xor, Nat.zero_testBit]
    generalize A.testBit i = b0
    generalize O.testBit i = b2
    revert b0 b2
    decide
/-- One gate. -/
structure Tied (off : Int) (L V Zs : List Int) : Prop where
  lenL : L.length = Zs.length
  lenV : V.length = Zs.length
  at_ : ∀ j : Nat, j < Zs.length → elt L (j : Int) = xorI (elt Zs (j : Int)) (off * elt V (j : Int))
theorem Tied.snoc {L V Zs : List Int} {l v z : Int} (h : Tied off L V Zs) (e : l = xorI z (off * v)) : Tied off (L ++ [l]) (V ++ [v]) (Zs ++ [z]) := by
  refine ⟨by simp [h.lenL], by simp [h.lenV], fun j hj => ?_⟩
  have h1 := h.lenL
  have h2 := h.lenV
  rw [List.length_append, List.length_singleton] at hj
  by_cases hjl : j < Zs.length
  · rw [elt_old (l := L) (by omega), elt_old (l := Zs) hjl, elt_old (l := V) (by omega)]; exact h.at_ j hjl
  · obtain rfl : j = Zs.length := by omega
    rw [elt_last, show ((Zs.length : Nat) : Int) = ((L.length : Nat) : Int) by omega, elt_last, show ((L.length : Nat) : Int) = ((V.length : Nat) : Int) by omega, elt_last]; exact e
theorem Tied.get {L V Zs : List Int} {a : Int} (h : Tied off L V Zs) (h0 : 0 ≤ a) (h1 : a < (Zs.length : Int)) : elt L a = xorI (elt Zs a) (off * elt V a) := by
  obtain ⟨j, rfl⟩ := Int.eq_ofNat_of_zero_le h0
  exact h.at_ j (by omega)
theorem garbled_run {m : Nat} {inp : List Int} (hA : AndOk off F Z R) (ho : 0 ≤ off ∧ off ≤ 65535 ∧ off % 2 = 1)
    (hF : ∀ w x y, 0 ≤ x ∧ x ≤ 65535 → 0 ≤ y ∧ y ≤ 65535 → 0 ≤ Z w x y ∧ Z w x y ≤ 65535)
    (hR : ∀ w x y, 0 ≤ x ∧ x ≤ 65535 → 0 ≤ y ∧ y ≤ 65535 → (R w x y).length = m ∧ ∀ z ∈ R w x y, 0 ≤ z ∧ z ≤ 65535)
    (hin : inp.length = n) (hbit : ∀ x ∈ inp, x = 0 ∨ x = 1) (hg : gatesB gs (n : Int) = true) (T : Gb) (hTr : T.rows = (zrM Z R key off n gs).rows) (hTo : T.ones = (zrM Z R key off n gs).ones) :
    ∀ k, k ≤ gs.length → Tied off (wiresM F T (lbInM key off inp) (gs.take k)).1 (valsM inp (gs.take k)) (zrM Z R key off n (gs.take k)).zs ∧
      (wiresM F T (lbInM key off inp) (gs.take k)).2.1 = (zrM Z R key off n (gs.take k)).rows.length ∧ (wiresM F T (lbInM key off inp) (gs.take k)).2.2 = (zrM Z R key off n (gs.take k)).ones.length
  | 0, _ => by
    refine ⟨⟨?_, ?_, fun j hj => ?_⟩, rfl, rfl⟩
    · simp [wiresM, zrM, zIns_length, lbInM_length, hin]
    · simp [valsM, zrM, zIns_length, hin]
    · simp only [zrM, List.take_zero, List.foldl_nil, zIns_length] at hj
      have hji : j < inp.length := by omega
      simp only [wiresM, zrM, valsM, List.take_zero, List.foldl_nil]
      unfold elt lbInM zIns
      rw [Int.toNat_natCast]
      simp [List.getD, hji, hj]
  | k + 1, h => by
    obtain ⟨t0, r0, o0⟩ := garbled_run hA ho hF hR hin hbit hg T hTr hTo k (by omega)
    have hgk : gs[k]? = some gs[k] := List.getElem?_eq_getElem (by omega)
    have hz := zr_inv (F := Z) (R := R) (key := key) (off := off) (n := n) (gatesB_kinds _ _ hg) k (by omega)
    have hab := gate_ab (gatesB_at _ _ k _ hg hgk)
    have hzb := (zr_bd ⟨ho.1, ho.2.1⟩ hF hR key n (gs.take k)).1
    have hvb := vals_bit hbit (gs.take k)
    obtain ⟨⟨tr, htr⟩, ⟨to', hto⟩⟩ := zr_pref2 Z R key off n gs (k + 1)
    have hlen := hz.1
    rw [wires_snoc hgk, vals_snoc hgk, zr_snoc hgk]
    rw [zr_snoc hgk] at htr hto
    generalize gs[k] = g at *
    generalize wiresM F T (lbInM key off inp) (gs.take k) = s at *
    generalize valsM inp (gs.take k) = V at *
    generalize zrM Z R key off n (gs.take k) = S at *
    obtain ⟨L, na, no⟩ := s
    simp only at t0 r0 o0
    have eL := t0.lenL
    unfold wireStep vStep zStep
    unfold zStep at htr hto
    have hva := elt_bit hvb g.a
    have hvb2 := elt_bit hvb g.b
    by_cases h0 : g.k = 0
    · have h1 := hab.2.1 (Or.inl h0)
      rw [if_pos h0, if_pos h0, if_pos h0]
      refine ⟨t0.snoc ?_, r0, o0⟩
      rw [t0.get h1.1 (by omega), t0.get h1.2.2.1 (by omega)]
      exact xor_off ⟨ho.1, ho.2.1⟩ hva hvb2
    · rw [if_neg h0] at htr hto
      rw [if_neg h0, if_neg h0, if_neg h0]
      by_cases h2 : g.k = 2
      · have h1 := hab.2.2 h2
        rw [if_pos h2, if_pos h2, if_neg (by omega), if_pos h2]
        refine ⟨t0.snoc ?_, r0, o0⟩
        show elt L g.a = _
        rw [t0.get h1.1 (by omega)]
        exact not_off hva
      · rw [if_neg h2] at htr hto
        rw [if_neg h2, if_neg h2]
        by_cases h3 : g.k = 3
        · rw [if_pos h3] at htr hto
          rw [if_pos h3, if_pos h3, if_neg (by omega), if_neg h2]
          refine ⟨t0.snoc ?_, r0, by simp [o0]⟩
          show T.ones.getD no 0 = _
          rw [hTo, o0, getD_len _ _ _ _ _ hto, Int.mul_one]
        · have h1 : g.k = 1 := by omega
          have h4 := hab.2.1 (Or.inr h1)
          rw [if_neg h3] at htr hto
          rw [if_neg h3, if_neg h2, if_neg h3, if_pos h1]
          refine ⟨t0.snoc ?_, by simp [r0], o0⟩
          show F (L.length : Int) (elt L g.a) (elt L g.b) (T.rows.getD na []) = _
          rw [hTr, r0, getD_len _ _ _ _ _ htr, eL, t0.get h4.1 (by omega), t0.get h4.2.2.1 (by omega)]
          exact hA _ _ _ _ _ (elt_bd hzb) (elt_bd hzb) hva hvb2
end
theorem decode_run {off : Int} {L V Zs : List Int} (t : Tied off L V Zs) (ho : 0 ≤ off ∧ off ≤ 65535 ∧ off % 2 = 1) (hz : ∀ x ∈ Zs, 0 ≤ x ∧ x ≤ 65535) (hv : ∀ x ∈ V, x = 0 ∨ x = 1) :
    ∀ outs : List Int, (∀ k ∈ outs, 0 ≤ k ∧ k < (Zs.length : Int)) → xorsM (coloursM (pickM L outs)) (coloursM (pickM Zs outs)) = pickM V outs
  | [], _ => rfl
  | k :: outs, h => by
    have h0 := h k (by simp)
    have ih := decode_run t ho hz hv outs fun x hx => h x (by simp [hx])
    have e1 : xorI (elt L k % 2) (elt Zs k % 2) = elt V k := by
      have hzb := elt_bd (k := k) hz
      rw [t.get h0.1 h0.2, xor_colour ho hzb.1 (elt_bit hv k)]
      rcases bit2 (elt Zs k) with e | e <;> rcases elt_bit hv k with e' | e' <;> rw [e, e'] <;> decide
    have e2 : xorsM (coloursM (pickM L (k :: outs))) (coloursM (pickM Zs (k :: outs))) = xorI (elt L k % 2) (elt Zs k % 2) :: xorsM (coloursM (pickM L outs)) (coloursM (pickM Zs outs)) := rfl
    rw [e2, e1, ih]
    rfl
end Go.Proofs.YtejeppjmlgfiaaaGreat

/- Contracts of whole runs of garbled and halved circuits, the program's. Conditions: the lists are short. -/
namespace Go.Proofs.YtejeppjmlgfiaaaGreat
open Go.RowKit
set_option linter.unusedVariables false

theorem offB_off (k : Int) : offB (offM k) = true := by
  have := offM_bd k
  unfold offB
  rw [inB_mk this.1 this.2.1]
  simp [this.2.2]
theorem off_lab (k : Int) : 0 ≤ offM k ∧ offM k ≤ 65535 := ⟨(offM_bd k).1, (offM_bd k).2.1⟩
theorem lbIn_bd {key r : Int} {l : List Int} (hr : 0 ≤ r ∧ r ≤ 65535) (hb : allB l 0 1 = true) : ∀ x ∈ lbInM key r l, 0 ≤ x ∧ x ≤ 65535 := by
  intro x hx
  unfold lbInM at hx
  rw [List.mem_mapIdx] at hx
  obtain ⟨i, h, rfl⟩ := hx
  have h1 := digM_bd [key, (i : Int), 13, 0]
  have h2 := off_bit hr (bit_cases hb (List.getElem_mem h))
  exact xorI_bd h1.1 h2.1 h1.2 h2.2
theorem pick_bd {l p : List Int} (h : ∀ x ∈ l, 0 ≤ x ∧ x ≤ 65535) : ∀ x ∈ pickM l p, 0 ≤ x ∧ x ≤ 65535 := by
  intro x hx
  simp only [pickM, List.mem_map] at hx
  obtain ⟨k, -, rfl⟩ := hx
  exact elt_bd (k := k) h
/-- The run of a circuit: its labels, decoded. -/
def outsM (F : Int → Int → Int → List Int → Int) (Z : Int → Int → Int → Int → Int) (R : Int → Int → Int → Int → List Int) (c : Cir) (key : Int) (a b : List Int) : List Int :=
  pickM (wiresM F (tabM (Z (offM key)) (R (offM key)) key (offM key) c) (lbInM key (offM key) (a ++ b)) c.gs).1 c.outs
def runM (F : Int → Int → Int → List Int → Int) (Z : Int → Int → Int → Int → Int) (R : Int → Int → Int → Int → List Int) (c : Cir) (key : Int) (a b : List Int) : Option (List Int) :=
  if askedB c a b && inB key 0 1000000000 then some (xorsM (coloursM (outsM F Z R c key a b)) (tabM (Z (offM key)) (R (offM key)) key (offM key) c).cols) else none
theorem asked_in {c : Cir} {a b : List Int} (h : askedB c a b = true) : ((a ++ b).length : Int) = c.ins ∧ allB (a ++ b) 0 1 = true := by
  have := askedB_of h
  refine ⟨by unfold Cir.ins; rw [List.length_append]; omega, ?_⟩
  unfold allB at *
  rw [List.all_append, this.2.1, this.2.2.1]; rfl
section
variable {F : Int → Int → Int → List Int → Int} {Z : Int → Int → Int → Int → Int} {R : Int → Int → Int → Int → List Int} {c : Cir} {key : Int} {a b : List Int} {n : Int}
theorem run_in (h : askedB c a b = true) (hk : inB key 0 1000000000 = true) : inputM c key (offM key) a b = some (lbInM key (offM key) (a ++ b)) := by
  unfold inputM; rw [h, hk, offB_off]; rfl
theorem run_inl (h : askedB c a b = true) : ((lbInM key (offM key) (a ++ b)).length : Int) = c.ins := by rw [lbInM_length]; exact (asked_in h).1
theorem run_ev (h : askedB c a b = true) (ht : tabB n c (tabM (Z (offM key)) (R (offM key)) key (offM key) c) = true) :
    evalM n F c (tabM (Z (offM key)) (R (offM key)) key (offM key) c) (lbInM key (offM key) (a ++ b)) = some (outsM F Z R c key a b) := by
  unfold evalM
  rw [(askedB_of h).1, ht, allB_of (lbIn_bd (off_lab key) (asked_in h).2)]
  simp [lbInM_length, (asked_in h).1.symm, outsM]
theorem run_bd (ht : tabB n c (tabM (Z (offM key)) (R (offM key)) key (offM key) c) = true) (h : askedB c a b = true)
    (hF : ∀ w x y r, 0 ≤ x ∧ x ≤ 65535 → (∀ z ∈ r, 0 ≤ z ∧ z ≤ 65535) → 0 ≤ F w x y r ∧ F w x y r ≤ 65535) : ∀ x ∈ outsM F Z R c key a b, 0 ≤ x ∧ x ≤ 65535 := by
  have htt := tabB_of ht
  exact pick_bd (wires_bd (n := 0) (lbIn_bd (off_lab key) (asked_in h).2) htt.2.2.2.1 (fun r hr => (htt.2.1 r hr).2) hF c.gs)
theorem run_dec (h : askedB c a b = true) (ht : tabB n c (tabM (Z (offM key)) (R (offM key)) key (offM key) c) = true)
    (hF : ∀ w x y r, 0 ≤ x ∧ x ≤ 65535 → (∀ z ∈ r, 0 ≤ z ∧ z ≤ 65535) → 0 ≤ F w x y r ∧ F w x y r ≤ 65535) :
    decodeM n c (tabM (Z (offM key)) (R (offM key)) key (offM key) c) (outsM F Z R c key a b) = some (xorsM (coloursM (outsM F Z R c key a b)) (tabM (Z (offM key)) (R (offM key)) key (offM key) c).cols) := by
  unfold decodeM
  rw [(askedB_of h).1, ht, allB_of (run_bd ht h hF)]
  simp [outsM, pickM_length]
theorem run_len (c : Cir) (key : Int) (a b : List Int) : ((runM F Z R c key a b).getD []).length ≤ 40 := by
  unfold runM
  rcases h : askedB c a b && inB key 0 1000000000 with _ | _
  · simp
  · simp only [Bool.and_eq_true] at h
    have hc := (cirB_bd (askedB_of h.1).1).2.2.2.2.2
    simp only [if_true, Option.getD_some, xorsM, List.length_zipWith, coloursM_length, outsM, pickM_length]
    omega
end
theorem blk_three {w : World} {b : Nat} {t : TypeId} {x y z : Value} (h : Blk w b t #[x, y, z]) (x' y' z' : Value) : Blk (((w.setCell ⟨b, 0, none⟩ x').setCell ⟨b, 1, none⟩ y').setCell ⟨b, 2, none⟩ z') b t #[x', y', z'] := by
  have := ((h.set_ 0 x').set_ 1 y').set_ 2 z'
  simpa using this
theorem openM_ok : ∀ w x y r, 0 ≤ x ∧ x ≤ 65535 → (∀ z ∈ r, 0 ≤ z ∧ z ≤ 65535) → 0 ≤ openM w x y r ∧ openM w x y r ≤ 65535 := fun w x y r _ hr => openM_bd hr
theorem joinM_ok : ∀ w x y r, 0 ≤ x ∧ x ≤ 65535 → (∀ z ∈ r, 0 ≤ z ∧ z ≤ 65535) → 0 ≤ joinM w x y r ∧ joinM w x y r ≤ 65535 := fun w x y r hx hr => joinM_bd hx hr
theorem c_made_garbledAnd {off : Int} {w : World} : Calls Tryz.prog 90 #[.int .i64 off] w fun e w' => ∃ q, e = .returned (.func (.func 144) #[] #[.pointer (some ⟨q, 0, none⟩)]) ∧ w'.cell? ⟨q, 0, none⟩ = some (.int .i64 off) ∧ Below w.heap.size w w' := by
  refine (c_impl_garbledAnd).mono ?_
  rintro e w' ⟨rfl, rfl⟩
  exact ⟨_, rfl, cell_new _ _ _, (Below.refl _ _).alloc (Nat.le_refl _) _⟩
theorem c_made_halvedAnd {off : Int} {w : World} : Calls Tryz.prog 58 #[.int .i64 off] w fun e w' => ∃ q, e = .returned (.func (.func 126) #[] #[.pointer (some ⟨q, 0, none⟩)]) ∧ w'.cell? ⟨q, 0, none⟩ = some (.int .i64 off) ∧ Below w.heap.size w w' := by
  refine (c_impl_halvedAnd).mono ?_
  rintro e w' ⟨rfl, rfl⟩
  exact ⟨_, rfl, cell_new _ _ _, (Below.refl _ _).alloc (Nat.le_refl _) _⟩
set_option maxRecDepth 100000 in
set_option maxHeartbeats 4000000 in
theorem c_impl_RunGarbled {c : Cir} {gv ov va vb : Value} {key : Int} {a b : List Int} {w : World} (h : CirIn w gv ov c) (ha : Ints w va a) (hb : Ints w vb b) (hla : a.length ≤ 1048576) (hlb : b.length ≤ 1048576) :
    Calls Tryz.prog 24 #[cirV c gv ov, .int .i64 key, va, vb] w (RetIB w (runM openM gbZ gbR c key a b)) := by
  have H := Lib.hid h
  have HVA := Lib.hid ha
  have HVB := Lib.hid hb
  obtain ⟨hg, hoo⟩ := h
  obtain ⟨A, cg, rfl, -⟩ := hg
  obtain ⟨A', co, rfl, -⟩ := hoo
  obtain ⟨Aa, ca, rfl, -⟩ := ha
  obtain ⟨Ab, cb, rfl, -⟩ := hb
  unfold cirV
  obtain ⟨w0, hw0⟩ : ∃ W, w.alloc (.cells #[.int .i64 c.i0, .int .i64 c.i1, .slice A c.gs.length cg, .slice A' c.outs.length co] 26) = W := ⟨_, rfl⟩
  have HKC : Hid (Blk w0 w.heap.size 26 #[.int .i64 c.i0, .int .i64 c.i1, .slice A c.gs.length cg, .slice A' c.outs.length co]) := by rw [← hw0]; exact Blk.new _ _ _
  have HB : Hid (Below w.heap.size w w0) := by rw [← hw0]; exact (Below.refl _ _).alloc (Nat.le_refl _) _
  rcases hk : inB key 0 1000000000 with _ | _
  · have HM := Lib.hid (show runM openM gbZ gbR c key a b = none by unfold runM; rw [hk, Bool.and_false]; rfl)
    have HO := Lib.hid (show offsetM key = none by unfold offsetM; rw [hk]; rfl)
    go_enter Tryz.func24, Tryz.ntmps24
    go_wp2_with fail
    refine (c_impl_OffsetFrom).mono ?_
    rintro e w1 ⟨rfl, hb1⟩
    rw [HO.out]
    clear hw0
    go_wp2
    go_ret2
    rw [HM.out]
    exact RetIB.no_below (below_step HB.out hb1)
  have HO := Lib.hid (show offsetM key = some (offM key) by unfold offsetM; rw [hk]; rfl)
  rcases hq : askedB c a b with _ | _
  · have HM := Lib.hid (show runM openM gbZ gbR c key a b = none by unfold runM; rw [hq, Bool.false_and]; rfl)
    go_enter Tryz.func24, Tryz.ntmps24
    go_wp2_with fail
    refine (c_impl_OffsetFrom).mono ?_
    rintro e w1 ⟨rfl, hb1⟩
    rw [HO.out]
    clear hw0
    have HB1 := Lib.hid (below_step HB.out hb1)
    replace HKC := Lib.hid (HKC.out.step hb1)
    have x0 : w1.cell? ⟨w.heap.size, 0, none⟩ = some (.int .i64 c.i0) := HKC.out.cell 0
    have x1 : w1.cell? ⟨w.heap.size, 1, none⟩ = some (.int .i64 c.i1) := HKC.out.cell 1
    have x2 : w1.cell? ⟨w.heap.size, 2, none⟩ = some (.slice A c.gs.length cg) := HKC.out.cell 2
    have x3 : w1.cell? ⟨w.heap.size, 3, none⟩ = some (.slice A' c.outs.length co) := HKC.out.cell 3
    go_wp2_with fail
    refine (c_impl_areInputs (H.out.below HB1.out) (HVA.out.below HB1.out) (HVB.out.below HB1.out) hla hlb).mono ?_
    rintro e w2 ⟨rfl, hb2⟩
    go_wp2
    go_ret2
    rw [HM.out]
    exact RetIB.no_below (below_step HB1.out hb2)
  · have HM := Lib.hid (show runM openM gbZ gbR c key a b = some (xorsM (coloursM (outsM openM gbZ gbR c key a b)) (tabM (gbZ (offM key)) (gbR (offM key)) key (offM key) c).cols) by unfold runM; rw [hq, hk]; rfl)
    have HC := Lib.hid (askedB_of hq).1
    have ho := off_lab key
    have hkb := inB_bd hk
    have ht := gb_tab_ok (key := key) HC.out ho
    have HIN := Lib.hid (run_in hq hk)
    have HIL := Lib.hid (run_inl (key := key) hq)
    have HEV := Lib.hid (run_ev (F := openM) (Z := gbZ) (R := gbR) (key := key) hq ht)
    have HDE := Lib.hid (run_dec (F := openM) (Z := gbZ) (R := gbR) (key := key) hq ht openM_ok)
    have HTS := Lib.hid (tab_sz HC.out ht (by omega))
    have hol : (outsM openM gbZ gbR c key a b).length ≤ 40 := by have := cirB_bd HC.out; unfold outsM; rw [pickM_length]; exact this.2.2.2.2.2
    have hil : (lbInM key (offM key) (a ++ b)).length ≤ 40 := by have := cirB_bd HC.out; have := HIL.out; unfold Cir.ins at this; omega
    clear hk ht
    generalize outsM openM gbZ gbR c key a b = outs at *
    generalize lbInM key (offM key) (a ++ b) = inp at *
    have HT := Lib.hid (fun (W : World) (q : Nat) (hW : Below w.heap.size w W) (hq : W.cell? ⟨q, 0, none⟩ = some (.int .i64 (offM key))) => c_tables_garbledAnd (H.out.below hW) HC.out hkb ho hq)
    unfold cirV at HT
    generalize tabM (gbZ (offM key)) (gbR (offM key)) key (offM key) c = T at *
    generalize offM key = off at *
    go_enter Tryz.func24, Tryz.ntmps24
    go_wp2_with fail
    refine (c_impl_OffsetFrom).mono ?_
    rintro e w1 ⟨rfl, hb1⟩
    rw [HO.out, show oV (some off) = off from rfl]
    clear hw0
    have HB1 := Lib.hid (below_step HB.out hb1)
    replace HKC := Lib.hid (HKC.out.step hb1)
    have x0 : w1.cell? ⟨w.heap.size, 0, none⟩ = some (.int .i64 c.i0) := HKC.out.cell 0
    have x1 : w1.cell? ⟨w.heap.size, 1, none⟩ = some (.int .i64 c.i1) := HKC.out.cell 1
    have x2 : w1.cell? ⟨w.heap.size, 2, none⟩ = some (.slice A c.gs.length cg) := HKC.out.cell 2
    have x3 : w1.cell? ⟨w.heap.size, 3, none⟩ = some (.slice A' c.outs.length co) := HKC.out.cell 3
    go_wp2_with fail
    refine (c_impl_areInputs (H.out.below HB1.out) (HVA.out.below HB1.out) (HVB.out.below HB1.out) hla hlb).mono ?_
    rintro e w2 ⟨rfl, hb2⟩
    have HB2 := Lib.hid (below_step HB1.out hb2)
    replace HKC := Lib.hid (HKC.out.step hb2)
    have Q0 : Hid (∀ W, Below w2.heap.size w2 W → W.cell? ⟨w.heap.size, 0, none⟩ = some (.int .i64 c.i0)) := Lib.hid (belowCell (HKC.out.cell 0))
    have Q1 : Hid (∀ W, Below w2.heap.size w2 W → W.cell? ⟨w.heap.size, 1, none⟩ = some (.int .i64 c.i1)) := Lib.hid (belowCell (HKC.out.cell 1))
    have Q2 : Hid (∀ W, Below w2.heap.size w2 W → W.cell? ⟨w.heap.size, 2, none⟩ = some (.slice A c.gs.length cg)) := Lib.hid (belowCell (HKC.out.cell 2))
    have Q3 : Hid (∀ W, Below w2.heap.size w2 W → W.cell? ⟨w.heap.size, 3, none⟩ = some (.slice A' c.outs.length co)) := Lib.hid (belowCell (HKC.out.cell 3))
    clear hb1 hb2 x0 x1 x2 x3
    go_wp2_with fail
    go_cut [12] (fun s wx => ∃ bx rv nv cv, s = .pointer (some ⟨bx, 0, none⟩) ∧ Hid (Blk wx bx 50 #[rv, nv, cv]) ∧ Hid (GbIn wx rv nv cv T) ∧ Hid (Below w2.heap.size w2 wx))
    case first =>
      have q0 := Q0.out
      have q1 := Q1.out
      have q2 := Q2.out
      have q3 := Q3.out
      go_region_held3 (fun W => Below w2.heap.size w2 W)
        (first | (refine below_step ?_ HD.out; assumption) | (exact (Below.refl _ _).drew) | (exact Below.refl _ _) | (exact Below.alloc (by assumption) (Below.size (B := w2.heap.size) (w := w2) (by assumption)) _) | (exact Below.alloc (Below.refl _ _) (Nat.le_refl _) _) | (exact below_refill (by assumption) (by first | exact Nat.le_refl _ | assumption | simp)) | (refine Below.setCell (Below.setCell (Below.setCell (by assumption) (p := ⟨_, 0, none⟩) ?_ _) (p := ⟨_, 1, none⟩) ?_ _) (p := ⟨_, 2, none⟩) ?_ _ <;> (first | exact Nat.le_refl _ | assumption)))
        (first
          | (go_at_call 90; refine (c_made_garbledAnd).mono ?_; rintro e wa ⟨q, rfl, hqa, hb⟩; replace hqa := Lib.hid hqa; have HD := Lib.hid hb; have hLa : Below w2.heap.size w2 wa := below_step (by first | assumption | exact (Below.refl _ _).drew) hb; have hsa : w2.heap.size ≤ wa.heap.size := hLa.size; (first | (replace KZ := Lib.hid (KZ.out.step hb)) | (have KZ : Hid (Blk _ w2.heap.size _ _) := Lib.hid ((Blk.new w2.drew _ _).step hb)) | (have KZ := Lib.hid ((Blk.new _ _ _).step hb)) | skip); (try (have y0 := KZ.out.cell 0; have y1 := KZ.out.cell 1; have y2 := KZ.out.cell 2; have yf0 := KZ.out.free 0; have yf1 := KZ.out.free 1; have yf2 := KZ.out.free 2; simp only [List.getElem?_toArray, List.getElem?_cons_zero, List.getElem?_cons_succ] at y0 y1 y2)))
          | (go_at_call 57; refine (HT.out _ q (below_step HB2.out (by first | assumption | (refine Below.alloc ?_ (Below.size ?_) _ <;> assumption))) (by first | exact hqa.out | exact (((Below.refl wa.heap.size wa).alloc (Nat.le_refl _) _).cell (World.block_lt_of_cell? _ _ hqa.out)).trans hqa.out)).mono ?_; rintro e wz ⟨rv, nv, cv, vs, rfl, hz, hb⟩; obtain ⟨Ar, cr, rfl, -⟩ := hz.rows.rowsIn.form; obtain ⟨Ao, co', rfl, -⟩ := hz.ones.ints; obtain ⟨Ac, cc, rfl, -⟩ := hz.cols.ints; replace hz := Lib.hid hz; have HD := Lib.hid hb; have hLz : Below w2.heap.size w2 wz := below_step (by first | assumption | (refine Below.alloc ?_ (Below.size ?_) _ <;> assumption)) hb; (try have hka := KZ.out.lt); have hsz : w2.heap.size ≤ wz.heap.size := hLz.size; (first | (replace KZ := Lib.hid (KZ.out.step hb)) | (have KZ : Hid (Blk _ w2.heap.size _ _) := Lib.hid ((Blk.new w2.drew _ _).step hb)) | (have KZ := Lib.hid ((Blk.new _ _ _).step hb)) | skip); (try (have y0 := KZ.out.cell 0; have y1 := KZ.out.cell 1; have y2 := KZ.out.cell 2; have yf0 := KZ.out.free 0; have yf1 := KZ.out.free 1; have yf2 := KZ.out.free 2; simp only [List.getElem?_toArray, List.getElem?_cons_zero, List.getElem?_cons_succ] at y0 y1 y2)); unfold gbV))
      all_goals
        go_wp2_with fail
        go_meet
        first
          | exact ⟨_, _, _, _, rfl, Lib.hid (Blk.new _ _ _), Lib.hid (hz.out.gbIn.alloc _), Lib.hid (by assumption)⟩
          | exact ⟨_, _, _, _, rfl, Lib.hid (blk_three KZ.out _ _ _), Lib.hid (((hz.out.setLow (by first | exact hka | (simp; done) | (simp; omega)) 0 _).setLow (by first | exact hka | (simp; done) | (simp; omega)) 1 _).setLow (by first | exact hka | (simp; done) | (simp; omega)) 2 _).gbIn, Lib.hid (by assumption)⟩
    case rest =>
      obtain ⟨bx, rv, nv, cv, rfl, HKG, HG, HBX⟩ := hcut
      obtain ⟨W3, hW3⟩ : ∃ W, wc = W := ⟨_, rfl⟩
      rw [hW3] at HKG HG HBX ⊢
      clear hW3
      obtain ⟨Ar, cr, rfl, -⟩ := HG.out.rows.form
      obtain ⟨Ao, co', rfl, -⟩ := HG.out.ones
      obtain ⟨Ac, cc, rfl, -⟩ := HG.out.cols
      have HB3 := Lib.hid (below_step HB2.out HBX.out)
      have x0 := Q0.out _ HBX.out
      have x1 := Q1.out _ HBX.out
      have x2 := Q2.out _ HBX.out
      have x3 := Q3.out _ HBX.out
      go_wp2_with fail
      refine (c_impl_InputLabels (H.out.below HB3.out) (HVA.out.below HB3.out) (HVB.out.below HB3.out) hla hlb).mono ?_
      rintro e w4 ⟨u, rfl, hu, hb4⟩
      rw [HIN.out] at hu ⊢
      have HU := Lib.hid (show OwnI w4 W3.heap.size u inp from hu)
      obtain ⟨Au, cu, rfl, -⟩ := HU.out.ints
      have HX4 := Lib.hid (below_step HBX.out hb4)
      have HB4 := Lib.hid (below_step HB3.out hb4)
      have HG4 := Lib.hid (HG.out.below hb4)
      have HKG4 := Lib.hid (HKG.out.step hb4)
      have g0 : w4.cell? ⟨bx, 0, none⟩ = some (.slice Ar T.rows.length cr) := HKG4.out.cell 0
      have g1 : w4.cell? ⟨bx, 1, none⟩ = some (.slice Ao T.ones.length co') := HKG4.out.cell 1
      have g2 : w4.cell? ⟨bx, 2, none⟩ = some (.slice Ac T.cols.length cc) := HKG4.out.cell 2
      replace x0 := Q0.out _ HX4.out
      replace x1 := Q1.out _ HX4.out
      replace x2 := Q2.out _ HX4.out
      replace x3 := Q3.out _ HX4.out
      clear hu hb4
      go_wp2_with fail
      refine (c_impl_EvalGarbled (H.out.below HB4.out) HG4.out (Nat.le_trans HTS.out (by omega)) HU.out.ints (by omega)).mono ?_
      rintro e w5 ⟨u5, rfl, hu5, hb5⟩
      rw [HEV.out] at hu5 ⊢
      have HU5 := Lib.hid (show OwnI w5 w4.heap.size u5 outs from hu5)
      obtain ⟨A5, c5, rfl, -⟩ := HU5.out.ints
      have HX5 := Lib.hid (below_step HX4.out hb5)
      have HB5 := Lib.hid (below_step HB4.out hb5)
      have HG5 := Lib.hid (HG4.out.below hb5)
      have HKG5 := Lib.hid (HKG4.out.step hb5)
      replace g0 : w5.cell? ⟨bx, 0, none⟩ = some (.slice Ar T.rows.length cr) := HKG5.out.cell 0
      replace g1 : w5.cell? ⟨bx, 1, none⟩ = some (.slice Ao T.ones.length co') := HKG5.out.cell 1
      replace g2 : w5.cell? ⟨bx, 2, none⟩ = some (.slice Ac T.cols.length cc) := HKG5.out.cell 2
      replace x0 := Q0.out _ HX5.out
      replace x1 := Q1.out _ HX5.out
      replace x2 := Q2.out _ HX5.out
      replace x3 := Q3.out _ HX5.out
      clear hu5 hb5
      go_wp2_with fail
      refine (c_impl_DecodeOuts (H.out.below HB5.out) HG5.out (Nat.le_trans HTS.out (by omega)) HU5.out.ints (by omega)).mono ?_
      rintro e w6 ⟨u6, rfl, hu6, hb6⟩
      rw [HDE.out] at hu6 ⊢
      go_wp2
      go_ret2
      rw [HM.out]
      exact RetIB.yes (show OwnI w6 w.heap.size u6 _ from OwnI.mono hu6 HB5.out.size) (below_step HB5.out hb6)
set_option maxRecDepth 100000 in
set_option maxHeartbeats 4000000 in
theorem c_impl_RunHalved {c : Cir} {gv ov va vb : Value} {key : Int} {a b : List Int} {w : World} (h : CirIn w gv ov c) (ha : Ints w va a) (hb : Ints w vb b) (hla : a.length ≤ 1048576) (hlb : b.length ≤ 1048576) :
    Calls Tryz.prog 7 #[cirV c gv ov, .int .i64 key, va, vb] w (RetIB w (runM joinM hgZ hgR c key a b)) := by
  have H := Lib.hid h
  have HVA := Lib.hid ha
  have HVB := Lib.hid hb
  obtain ⟨hg, hoo⟩ := h
  obtain ⟨A, cg, rfl, -⟩ := hg
  obtain ⟨A', co, rfl, -⟩ := hoo
  obtain ⟨Aa, ca, rfl, -⟩ := ha
  obtain ⟨Ab, cb, rfl, -⟩ := hb
  unfold cirV
  obtain ⟨w0, hw0⟩ : ∃ W, w.alloc (.cells #[.int .i64 c.i0, .int .i64 c.i1, .slice A c.gs.length cg, .slice A' c.outs.length co] 26) = W := ⟨_, rfl⟩
  have HKC : Hid (Blk w0 w.heap.size 26 #[.int .i64 c.i0, .int .i64 c.i1, .slice A c.gs.length cg, .slice A' c.outs.length co]) := by rw [← hw0]; exact Blk.new _ _ _
  have HB : Hid (Below w.heap.size w w0) := by rw [← hw0]; exact (Below.refl _ _).alloc (Nat.le_refl _) _
  rcases hk : inB key 0 1000000000 with _ | _
  · have HM := Lib.hid (show runM joinM hgZ hgR c key a b = none by unfold runM; rw [hk, Bool.and_false]; rfl)
    have HO := Lib.hid (show offsetM key = none by unfold offsetM; rw [hk]; rfl)
    go_enter Tryz.func7, Tryz.ntmps7
    go_wp2_with fail
    refine (c_impl_OffsetFrom).mono ?_
    rintro e w1 ⟨rfl, hb1⟩
    rw [HO.out]
    clear hw0
    go_wp2
    go_ret2
    rw [HM.out]
    exact RetIB.no_below (below_step HB.out hb1)
  have HO := Lib.hid (show offsetM key = some (offM key) by unfold offsetM; rw [hk]; rfl)
  rcases hq : askedB c a b with _ | _
  · have HM := Lib.hid (show runM joinM hgZ hgR c key a b = none by unfold runM; rw [hq, Bool.false_and]; rfl)
    go_enter Tryz.func7, Tryz.ntmps7
    go_wp2_with fail
    refine (c_impl_OffsetFrom).mono ?_
    rintro e w1 ⟨rfl, hb1⟩
    rw [HO.out]
    clear hw0
    have HB1 := Lib.hid (below_step HB.out hb1)
    replace HKC := Lib.hid (HKC.out.step hb1)
    have x0 : w1.cell? ⟨w.heap.size, 0, none⟩ = some (.int .i64 c.i0) := HKC.out.cell 0
    have x1 : w1.cell? ⟨w.heap.size, 1, none⟩ = some (.int .i64 c.i1) := HKC.out.cell 1
    have x2 : w1.cell? ⟨w.heap.size, 2, none⟩ = some (.slice A c.gs.length cg) := HKC.out.cell 2
    have x3 : w1.cell? ⟨w.heap.size, 3, none⟩ = some (.slice A' c.outs.length co) := HKC.out.cell 3
    go_wp2_with fail
    refine (c_impl_areInputs (H.out.below HB1.out) (HVA.out.below HB1.out) (HVB.out.below HB1.out) hla hlb).mono ?_
    rintro e w2 ⟨rfl, hb2⟩
    go_wp2
    go_ret2
    rw [HM.out]
    exact RetIB.no_below (below_step HB1.out hb2)
  · have HM := Lib.hid (show runM joinM hgZ hgR c key a b = some (xorsM (coloursM (outsM joinM hgZ hgR c key a b)) (tabM (hgZ (offM key)) (hgR (offM key)) key (offM key) c).cols) by unfold runM; rw [hq, hk]; rfl)
    have HC := Lib.hid (askedB_of hq).1
    have ho := off_lab key
    have hkb := inB_bd hk
    have ht := hg_tab_ok (key := key) HC.out ho
    have HIN := Lib.hid (run_in hq hk)
    have HIL := Lib.hid (run_inl (key := key) hq)
    have HEV := Lib.hid (run_ev (F := joinM) (Z := hgZ) (R := hgR) (key := key) hq ht)
    have HDE := Lib.hid (run_dec (F := joinM) (Z := hgZ) (R := hgR) (key := key) hq ht joinM_ok)
    have HTS := Lib.hid (tab_sz HC.out ht (by omega))
    have hol : (outsM joinM hgZ hgR c key a b).length ≤ 40 := by have := cirB_bd HC.out; unfold outsM; rw [pickM_length]; exact this.2.2.2.2.2
    have hil : (lbInM key (offM key) (a ++ b)).length ≤ 40 := by have := cirB_bd HC.out; have := HIL.out; unfold Cir.ins at this; omega
    clear hk ht
    generalize outsM joinM hgZ hgR c key a b = outs at *
    generalize lbInM key (offM key) (a ++ b) = inp at *
    have HT := Lib.hid (fun (W : World) (q : Nat) (hW : Below w.heap.size w W) (hq : W.cell? ⟨q, 0, none⟩ = some (.int .i64 (offM key))) => c_tables_halvedAnd (H.out.below hW) HC.out hkb ho hq)
    unfold cirV at HT
    generalize tabM (hgZ (offM key)) (hgR (offM key)) key (offM key) c = T at *
    generalize offM key = off at *
    go_enter Tryz.func7, Tryz.ntmps7
    go_wp2_with fail
    refine (c_impl_OffsetFrom).mono ?_
    rintro e w1 ⟨rfl, hb1⟩
    rw [HO.out, show oV (some off) = off from rfl]
    clear hw0
    have HB1 := Lib.hid (below_step HB.out hb1)
    replace HKC := Lib.hid (HKC.out.step hb1)
    have x0 : w1.cell? ⟨w.heap.size, 0, none⟩ = some (.int .i64 c.i0) := HKC.out.cell 0
    have x1 : w1.cell? ⟨w.heap.size, 1, none⟩ = some (.int .i64 c.i1) := HKC.out.cell 1
    have x2 : w1.cell? ⟨w.heap.size, 2, none⟩ = some (.slice A c.gs.length cg) := HKC.out.cell 2
    have x3 : w1.cell? ⟨w.heap.size, 3, none⟩ = some (.slice A' c.outs.length co) := HKC.out.cell 3
    go_wp2_with fail
    refine (c_impl_areInputs (H.out.below HB1.out) (HVA.out.below HB1.out) (HVB.out.below HB1.out) hla hlb).mono ?_
    rintro e w2 ⟨rfl, hb2⟩
    have HB2 := Lib.hid (below_step HB1.out hb2)
    replace HKC := Lib.hid (HKC.out.step hb2)
    have Q0 : Hid (∀ W, Below w2.heap.size w2 W → W.cell? ⟨w.heap.size, 0, none⟩ = some (.int .i64 c.i0)) := Lib.hid (belowCell (HKC.out.cell 0))
    have Q1 : Hid (∀ W, Below w2.heap.size w2 W → W.cell? ⟨w.heap.size, 1, none⟩ = some (.int .i64 c.i1)) := Lib.hid (belowCell (HKC.out.cell 1))
    have Q2 : Hid (∀ W, Below w2.heap.size w2 W → W.cell? ⟨w.heap.size, 2, none⟩ = some (.slice A c.gs.length cg)) := Lib.hid (belowCell (HKC.out.cell 2))
    have Q3 : Hid (∀ W, Below w2.heap.size w2 W → W.cell? ⟨w.heap.size, 3, none⟩ = some (.slice A' c.outs.length co)) := Lib.hid (belowCell (HKC.out.cell 3))
    clear hb1 hb2 x0 x1 x2 x3
    go_wp2_with fail
    go_cut [12] (fun s wx => ∃ bx rv nv cv, s = .pointer (some ⟨bx, 0, none⟩) ∧ Hid (Blk wx bx 35 #[rv, nv, cv]) ∧ Hid (GbIn wx rv nv cv T) ∧ Hid (Below w2.heap.size w2 wx))
    case first =>
      have q0 := Q0.out
      have q1 := Q1.out
      have q2 := Q2.out
      have q3 := Q3.out
      go_region_held3 (fun W => Below w2.heap.size w2 W)
        (first | (refine below_step ?_ HD.out; assumption) | (exact (Below.refl _ _).drew) | (exact Below.refl _ _) | (exact Below.alloc (by assumption) (Below.size (B := w2.heap.size) (w := w2) (by assumption)) _) | (exact Below.alloc (Below.refl _ _) (Nat.le_refl _) _) | (exact below_refill (by assumption) (by first | exact Nat.le_refl _ | assumption | simp)) | (refine Below.setCell (Below.setCell (Below.setCell (by assumption) (p := ⟨_, 0, none⟩) ?_ _) (p := ⟨_, 1, none⟩) ?_ _) (p := ⟨_, 2, none⟩) ?_ _ <;> (first | exact Nat.le_refl _ | assumption)))
        (first
          | (go_at_call 58; refine (c_made_halvedAnd).mono ?_; rintro e wa ⟨q, rfl, hqa, hb⟩; replace hqa := Lib.hid hqa; have HD := Lib.hid hb; have hLa : Below w2.heap.size w2 wa := below_step (by first | assumption | exact (Below.refl _ _).drew) hb; have hsa : w2.heap.size ≤ wa.heap.size := hLa.size; (first | (replace KZ := Lib.hid (KZ.out.step hb)) | (have KZ : Hid (Blk _ w2.heap.size _ _) := Lib.hid ((Blk.new w2.drew _ _).step hb)) | (have KZ := Lib.hid ((Blk.new _ _ _).step hb)) | skip); (try (have y0 := KZ.out.cell 0; have y1 := KZ.out.cell 1; have y2 := KZ.out.cell 2; have yf0 := KZ.out.free 0; have yf1 := KZ.out.free 1; have yf2 := KZ.out.free 2; simp only [List.getElem?_toArray, List.getElem?_cons_zero, List.getElem?_cons_succ] at y0 y1 y2)))
          | (go_at_call 57; refine (HT.out _ q (below_step HB2.out (by first | assumption | (refine Below.alloc ?_ (Below.size ?_) _ <;> assumption))) (by first | exact hqa.out | exact (((Below.refl wa.heap.size wa).alloc (Nat.le_refl _) _).cell (World.block_lt_of_cell? _ _ hqa.out)).trans hqa.out)).mono ?_; rintro e wz ⟨rv, nv, cv, vs, rfl, hz, hb⟩; obtain ⟨Ar, cr, rfl, -⟩ := hz.rows.rowsIn.form; obtain ⟨Ao, co', rfl, -⟩ := hz.ones.ints; obtain ⟨Ac, cc, rfl, -⟩ := hz.cols.ints; replace hz := Lib.hid hz; have HD := Lib.hid hb; have hLz : Below w2.heap.size w2 wz := below_step (by first | assumption | (refine Below.alloc ?_ (Below.size ?_) _ <;> assumption)) hb; (try have hka := KZ.out.lt); have hsz : w2.heap.size ≤ wz.heap.size := hLz.size; (first | (replace KZ := Lib.hid (KZ.out.step hb)) | (have KZ : Hid (Blk _ w2.heap.size _ _) := Lib.hid ((Blk.new w2.drew _ _).step hb)) | (have KZ := Lib.hid ((Blk.new _ _ _).step hb)) | skip); (try (have y0 := KZ.out.cell 0; have y1 := KZ.out.cell 1; have y2 := KZ.out.cell 2; have yf0 := KZ.out.free 0; have yf1 := KZ.out.free 1; have yf2 := KZ.out.free 2; simp only [List.getElem?_toArray, List.getElem?_cons_zero, List.getElem?_cons_succ] at y0 y1 y2)); unfold gbV))
      all_goals
        go_wp2_with fail
        go_meet
        first
          | exact ⟨_, _, _, _, rfl, Lib.hid (Blk.new _ _ _), Lib.hid (hz.out.gbIn.alloc _), Lib.hid (by assumption)⟩
          | exact ⟨_, _, _, _, rfl, Lib.hid (blk_three KZ.out _ _ _), Lib.hid (((hz.out.setLow (by first | exact hka | (simp; done) | (simp; omega)) 0 _).setLow (by first | exact hka | (simp; done) | (simp; omega)) 1 _).setLow (by first | exact hka | (simp; done) | (simp; omega)) 2 _).gbIn, Lib.hid (by assumption)⟩
    case rest =>
      obtain ⟨bx, rv, nv, cv, rfl, HKG, HG, HBX⟩ := hcut
      obtain ⟨W3, hW3⟩ : ∃ W, wc = W := ⟨_, rfl⟩
      rw [hW3] at HKG HG HBX ⊢
      clear hW3
      obtain ⟨Ar, cr, rfl, -⟩ := HG.out.rows.form
      obtain ⟨Ao, co', rfl, -⟩ := HG.out.ones
      obtain ⟨Ac, cc, rfl, -⟩ := HG.out.cols
      have HB3 := Lib.hid (below_step HB2.out HBX.out)
      have x0 := Q0.out _ HBX.out
      have x1 := Q1.out _ HBX.out
      have x2 := Q2.out _ HBX.out
      have x3 := Q3.out _ HBX.out
      go_wp2_with fail
      refine (c_impl_InputLabels (H.out.below HB3.out) (HVA.out.below HB3.out) (HVB.out.below HB3.out) hla hlb).mono ?_
      rintro e w4 ⟨u, rfl, hu, hb4⟩
      rw [HIN.out] at hu ⊢
      have HU := Lib.hid (show OwnI w4 W3.heap.size u inp from hu)
      obtain ⟨Au, cu, rfl, -⟩ := HU.out.ints
      have HX4 := Lib.hid (below_step HBX.out hb4)
      have HB4 := Lib.hid (below_step HB3.out hb4)
      have HG4 := Lib.hid (HG.out.below hb4)
      have HKG4 := Lib.hid (HKG.out.step hb4)
      have g0 : w4.cell? ⟨bx, 0, none⟩ = some (.slice Ar T.rows.length cr) := HKG4.out.cell 0
      have g1 : w4.cell? ⟨bx, 1, none⟩ = some (.slice Ao T.ones.length co') := HKG4.out.cell 1
      have g2 : w4.cell? ⟨bx, 2, none⟩ = some (.slice Ac T.cols.length cc) := HKG4.out.cell 2
      replace x0 := Q0.out _ HX4.out
      replace x1 := Q1.out _ HX4.out
      replace x2 := Q2.out _ HX4.out
      replace x3 := Q3.out _ HX4.out
      clear hu hb4
      go_wp2_with fail
      refine (c_impl_EvalHalved (H.out.below HB4.out) HG4.out (Nat.le_trans HTS.out (by omega)) HU.out.ints (by omega)).mono ?_
      rintro e w5 ⟨u5, rfl, hu5, hb5⟩
      rw [HEV.out] at hu5 ⊢
      have HU5 := Lib.hid (show OwnI w5 w4.heap.size u5 outs from hu5)
      obtain ⟨A5, c5, rfl, -⟩ := HU5.out.ints
      have HX5 := Lib.hid (below_step HX4.out hb5)
      have HB5 := Lib.hid (below_step HB4.out hb5)
      have HG5 := Lib.hid (HG4.out.below hb5)
      have HKG5 := Lib.hid (HKG4.out.step hb5)
      replace g0 : w5.cell? ⟨bx, 0, none⟩ = some (.slice Ar T.rows.length cr) := HKG5.out.cell 0
      replace g1 : w5.cell? ⟨bx, 1, none⟩ = some (.slice Ao T.ones.length co') := HKG5.out.cell 1
      replace g2 : w5.cell? ⟨bx, 2, none⟩ = some (.slice Ac T.cols.length cc) := HKG5.out.cell 2
      replace x0 := Q0.out _ HX5.out
      replace x1 := Q1.out _ HX5.out
      replace x2 := Q2.out _ HX5.out
      replace x3 := Q3.out _ HX5.out
      clear hu5 hb5
      go_wp2_with fail
      refine (c_impl_DecodeHalved (H.out.below HB5.out) HG5.out (Nat.le_trans HTS.out (by omega)) HU5.out.ints (by omega)).mono ?_
      rintro e w6 ⟨u6, rfl, hu6, hb6⟩
      rw [HDE.out] at hu6 ⊢
      go_wp2
      go_ret2
      rw [HM.out]
      exact RetIB.yes (show OwnI w6 w.heap.size u6 _ from OwnI.mono hu6 HB5.out.size) (below_step HB5.out hb6)
end Go.Proofs.YtejeppjmlgfiaaaGreat

/- Contracts of the values of all wires and of the evaluation of a circuit, the program's. Conditions: the lists are short. -/
namespace Go.Proofs.YtejeppjmlgfiaaaGreat
open Go.RowKit
set_option linter.unusedVariables false

theorem bit_and {x y : Int} (hx : x = 0 ∨ x = 1) (hy : y = 0 ∨ y = 1) : bits .and .i64 x y = x * y := by
  rcases hx with rfl | rfl <;> rcases hy with rfl | rfl <;> decide
theorem bit_xor2 {x y : Int} (hx : x = 0 ∨ x = 1) (hy : y = 0 ∨ y = 1) : bits .xor .i64 x y = xorI x y := by
  rcases hx with rfl | rfl <;> rcases hy with rfl | rfl <;> decide
/-- The values of the outs. -/
def clearM (c : Cir) (a b : List Int) : Option (List Int) := if askedB c a b then some (pickM (valsM (a ++ b) c.gs) c.outs) else none
def wireVM (c : Cir) (a b : List Int) : Option (List Int) := if askedB c a b then some (valsM (a ++ b) c.gs) else none
set_option maxRecDepth 100000 in
set_option maxHeartbeats 2000000 in
theorem c_C_values {c : Cir} {gv ov vi : Value} {inp : List Int} {w : World} (h : CirIn w gv ov c) (hc : cirB c = true) (hi : Ints w vi inp) (hil : (inp.length : Int) = c.ins) (hib : ∀ x ∈ inp, x = 0 ∨ x = 1) :
    Calls Tryz.prog 142 #[cirV c gv ov, vi] w (RetI w (valsM inp c.gs)) := by
  have hbd := cirB_bd hc
  have hgl : c.gs.length ≤ 300 := hbd.2.2.2.2.1
  have hins : 0 ≤ c.ins ∧ c.ins ≤ 40 := by unfold Cir.ins; omega
  have HGB := Lib.hid (cirB_gates hc)
  have HKB := Lib.hid (cirB_kinds hc)
  have HBD := Lib.hid (vals_bit hib)
  have HI := Lib.hid hi
  obtain ⟨hg, ho⟩ := h
  obtain ⟨A, cg, rfl, hlg, hmg, hrg⟩ := hg
  obtain ⟨A', co, rfl, -⟩ := ho
  have HRG := Lib.hid hrg
  unfold maxLen at hmg
  clear hc hbd hrg hib
  unfold cirV
  obtain ⟨w0, hw0⟩ : ∃ W, w.alloc (.cells #[.int .i64 c.i0, .int .i64 c.i1, .slice A c.gs.length cg, .slice A' c.outs.length co] 26) = W := ⟨_, rfl⟩
  have HKC := Lib.hid (Blk.new w 26 #[.int .i64 c.i0, .int .i64 c.i1, .slice A c.gs.length cg, .slice A' c.outs.length co])
  rw [hw0] at HKC
  have hz0 : w.heap.size + 1 ≤ w0.heap.size := by rw [← hw0]; simp
  have HB : Hid (Below w.heap.size w w0) := by rw [← hw0]; exact (Below.refl w.heap.size w).alloc (Nat.le_refl _) _
  go_enter Tryz.func142, Tryz.ntmps142
  go_wp2_with fail
  clear hw0
  refine (c_slices_Clone (HI.out.below HB.out) (by omega)).mono ?_
  rintro e w1 ⟨u, rfl, hu, hb⟩
  have HU := Lib.hid (hu.mono hz0)
  have hz1 : w.heap.size + 1 ≤ w1.heap.size := Nat.le_trans hz0 hb.size
  replace HB := Lib.hid (below_step HB.out hb)
  replace HKC := Lib.hid (HKC.out.step hb)
  have x2 : w1.cell? ⟨w.heap.size, 2, none⟩ = some (.slice A c.gs.length cg) := HKC.out.cell 2
  clear hb hu HKC
  go_wp2
  clear x2
  go_loopw [5, 14] (fun o i wr => ∃ k : Nat, k ≤ c.gs.length ∧ i = .int .i64 k ∧ Hid (OwnI wr (w.heap.size + 1) o (valsM inp (c.gs.take k))) ∧ Hid (Below w.heap.size w wr) ∧ w.heap.size + 1 ≤ wr.heap.size) (fun _ i _ => c.gs.length - (intOf i).toNat)
  case atStart => exact ⟨0, Nat.zero_le _, rfl, HU, HB, hz1⟩
  case round =>
    obtain ⟨k, hk, rfl, HO, HB, hzr⟩ := hrel
    by_cases hlt : k < c.gs.length
    · obtain ⟨b, o, g, rfl, hbl, hgk, c0, c1', c2'⟩ := (HRG.out.below HB.out).gate_at hlt
      have hgb := gate_ab (gatesB_at _ _ k g HGB.out hgk)
      have i1 := vals_len inp (c.gs.take k)
      rw [List.length_take, Nat.min_eq_left (by omega)] at i1
      have HS := Lib.hid (vals_snoc (inp := inp) hgk)
      have hbs := HBD.out (c.gs.take k)
      generalize hs : valsM inp (c.gs.take k) = l at *
      clear hs hgk
      obtain ⟨gk, ga, gb⟩ := g
      simp only at c0 c1' c2' hgb i1 hbs HO
      obtain ⟨Au, cu, rfl, hlu, hmu, hru⟩ := own_form HO.out
      unfold maxLen at hmu
      have hll : (l.length : Int) = c.ins + k := by omega
      have hl340 : l.length ≤ 340 := by omega
      have HLL := Lib.hid hll
      have HBS := Lib.hid hbs
      have HRU := Lib.hid hru
      obtain ⟨wb, hwb⟩ : ∃ W, wr.alloc (.cells #[.int .i64 gk, .int .i64 ga, .int .i64 gb] 117) = W := ⟨_, rfl⟩
      have hbb : Below wr.heap.size wr wb := by rw [← hwb]; exact (Below.refl _ _).alloc (Nat.le_refl _) _
      have HBX : Hid (Blk wb wr.heap.size 117 #[.int .i64 gk, .int .i64 ga, .int .i64 gb]) := by rw [← hwb]; exact Blk.new _ _ _
      have y0 : wb.cell? ⟨wr.heap.size, 0, none⟩ = some (.int .i64 gk) := HBX.out.cell 0
      have y1 : wb.cell? ⟨wr.heap.size, 1, none⟩ = some (.int .i64 ga) := HBX.out.cell 1
      have y2 : wb.cell? ⟨wr.heap.size, 2, none⟩ = some (.int .i64 gb) := HBX.out.cell 2
      have HBB := Lib.hid hbb
      have HB2 := Lib.hid (below_step HB.out hbb)
      have HO2 := Lib.hid (HO.out.below hbb)
      have hsz : w.heap.size + 1 ≤ wb.heap.size := Nat.le_trans hzr HBB.out.size
      clear hbb hll hbs hru HB HO hlu hmu
      have hkk : gk = 0 ∨ gk = 1 ∨ gk = 2 ∨ gk = 3 := by omega
      rcases hkk with rfl | rfl | rfl | rfl
      · have hab := hgb.2.1 (Or.inl rfl)
        obtain ⟨ja, rfl, hja, hea⟩ := elt_at (l := l) hab.1 (by have := HLL.out; omega)
        obtain ⟨jb, rfl, hjb, heb⟩ := elt_at (l := l) hab.2.2.1 (by have := HLL.out; omega)
        obtain ⟨bo, oo, xa, rfl, hbo, hxa, hca⟩ := (HRU.out.below HBB.out).int_at hja
        obtain ⟨bo2, oo2, xb, e2, hbo2, hxb, hcb⟩ := (HRU.out.below HBB.out).int_at hjb
        injection e2 with e2; injection e2 with e2 e2'; subst e2 e2'
        have exa := hea.symm.trans hxa
        have exb := heb.symm.trans hxb
        injection exa with exa
        injection exb with exb
        have ba := elt_bit HBS.out (ja : Int)
        have bb := elt_bit HBS.out (jb : Int)
        rw [exa] at ba
        rw [exb] at bb
        have hxor := bit_xor2 ba bb
        have HW := Lib.hid (show vStep l ⟨0, (ja : Int), (jb : Int)⟩ = l ++ [xorI xa xb] by unfold vStep; simp only [Int.reduceEq, if_false, if_true]; rw [exa, exb])
        clear hgb hea heb hxa hxb exa exb hab i1
        have hja0 : (0 : Int) ≤ (ja : Int) := Int.natCast_nonneg _
        have hja1 : (ja : Int) < (l.length : Int) := by omega
        have hjb0 : (0 : Int) ≤ (jb : Int) := Int.natCast_nonneg _
        have hjb1 : (jb : Int) < (l.length : Int) := by omega
        go_wp2_with fail
        go_region_held3 (fun w' => w'.cell? ⟨wr.heap.size, 1, none⟩ = some (.int .i64 (ja : Int)) ∧ w'.cell? ⟨wr.heap.size, 2, none⟩ = some (.int .i64 (jb : Int)) ∧ w'.cell? ⟨bo, oo + ja, none⟩ = some (.int .i64 xa) ∧ w'.cell? ⟨bo, oo + jb, none⟩ = some (.int .i64 xb)) (exact ⟨y1, y2, hca, hcb⟩) (fail)
        go_wp2_with (at_builtin; refine wp_app1 (B := w.heap.size + 1) rfl rfl Tryz.underlying24 info_int rfl (own_drew HO2.out) rfl rfl rfl (by unfold maxLen; omega) (by omega) hsz ?_; intro v' w9 ho hg hfr)
        have HBn := Lib.hid (below_app HB2.out.drew (own_mono (own_drew HO2.out) (Nat.le_add_right _ 1)) hg (Nat.le_refl _))
        have hzn := Nat.le_trans hsz hg.size
        go_roundw
        case rel => exact ⟨k + 1, by omega, by go_num, by rw [HS.out, HW.out]; exact Lib.hid (OwnI.snoc ho), HBn, hzn⟩
        case measure => simp [intOf]; omega
      · have hab := hgb.2.1 (Or.inr rfl)
        obtain ⟨ja, rfl, hja, hea⟩ := elt_at (l := l) hab.1 (by have := HLL.out; omega)
        obtain ⟨jb, rfl, hjb, heb⟩ := elt_at (l := l) hab.2.2.1 (by have := HLL.out; omega)
        obtain ⟨bo, oo, xa, rfl, hbo, hxa, hca⟩ := (HRU.out.below HBB.out).int_at hja
        obtain ⟨bo2, oo2, xb, e2, hbo2, hxb, hcb⟩ := (HRU.out.below HBB.out).int_at hjb
        injection e2 with e2; injection e2 with e2 e2'; subst e2 e2'
        have exa := hea.symm.trans hxa
        have exb := heb.symm.trans hxb
        injection exa with exa
        injection exb with exb
        have ba := elt_bit HBS.out (ja : Int)
        have bb := elt_bit HBS.out (jb : Int)
        rw [exa] at ba
        rw [exb] at bb
        have hxor := bit_and ba bb
        have HW := Lib.hid (show vStep l ⟨1, (ja : Int), (jb : Int)⟩ = l ++ [xa * xb] by unfold vStep; simp only [Int.reduceEq, if_false, if_true]; rw [exa, exb])
        clear hgb hea heb hxa hxb exa exb hab i1
        have hja0 : (0 : Int) ≤ (ja : Int) := Int.natCast_nonneg _
        have hja1 : (ja : Int) < (l.length : Int) := by omega
        have hjb0 : (0 : Int) ≤ (jb : Int) := Int.natCast_nonneg _
        have hjb1 : (jb : Int) < (l.length : Int) := by omega
        go_wp2_with fail
        go_region_held3 (fun w' => w'.cell? ⟨wr.heap.size, 1, none⟩ = some (.int .i64 (ja : Int)) ∧ w'.cell? ⟨wr.heap.size, 2, none⟩ = some (.int .i64 (jb : Int)) ∧ w'.cell? ⟨bo, oo + ja, none⟩ = some (.int .i64 xa) ∧ w'.cell? ⟨bo, oo + jb, none⟩ = some (.int .i64 xb)) (exact ⟨y1, y2, hca, hcb⟩) (fail)
        go_wp2_with (at_builtin; refine wp_app1 (B := w.heap.size + 1) rfl rfl Tryz.underlying24 info_int rfl (own_drew HO2.out) rfl rfl rfl (by unfold maxLen; omega) (by omega) hsz ?_; intro v' w9 ho hg hfr)
        have HBn := Lib.hid (below_app HB2.out.drew (own_mono (own_drew HO2.out) (Nat.le_add_right _ 1)) hg (Nat.le_refl _))
        have hzn := Nat.le_trans hsz hg.size
        go_roundw
        case rel => exact ⟨k + 1, by omega, by go_num, by rw [HS.out, HW.out]; exact Lib.hid (OwnI.snoc ho), HBn, hzn⟩
        case measure => simp [intOf]; omega
      · have hab := hgb.2.2 rfl
        obtain ⟨ja, rfl, hja, hea⟩ := elt_at (l := l) hab.1 (by have := HLL.out; omega)
        obtain ⟨bo, oo, xa, rfl, hbo, hxa, hca⟩ := (HRU.out.below HBB.out).int_at hja
        have exa := hea.symm.trans hxa
        injection exa with exa
        have ba := elt_bit HBS.out (ja : Int)
        rw [exa] at ba
        have hx1 : -9223372036854775808 ≤ 1 - xa ∧ 1 - xa ≤ 9223372036854775807 := by omega
        have HW := Lib.hid (show vStep l ⟨2, (ja : Int), gb⟩ = l ++ [1 - xa] by unfold vStep; simp only [Int.reduceEq, if_false, if_true]; rw [exa])
        clear hgb hea hxa exa hab i1
        have hja0 : (0 : Int) ≤ (ja : Int) := Int.natCast_nonneg _
        have hja1 : (ja : Int) < (l.length : Int) := by omega
        go_wp2_with (at_builtin; refine wp_app1 (B := w.heap.size + 1) rfl rfl Tryz.underlying24 info_int rfl HO2.out rfl rfl rfl (by unfold maxLen; omega) (by omega) hsz ?_; intro v' w9 ho hg hfr)
        have HBn := Lib.hid (below_app HB2.out (own_mono HO2.out (Nat.le_add_right _ 1)) hg (Nat.le_refl _))
        have hzn := Nat.le_trans hsz hg.size
        go_roundw
        case rel => exact ⟨k + 1, by omega, by go_num, by rw [HS.out, HW.out]; exact Lib.hid (OwnI.snoc ho), HBn, hzn⟩
        case measure => simp [intOf]; omega
      · have HW := Lib.hid (show vStep l ⟨3, ga, gb⟩ = l ++ [1] by unfold vStep; simp only [Int.reduceEq, if_false])
        clear hgb i1
        go_wp2_with (at_builtin; refine wp_app1 (B := w.heap.size + 1) rfl rfl Tryz.underlying24 info_int rfl HO2.out rfl rfl rfl (by unfold maxLen; omega) (by omega) hsz ?_; intro v' w9 ho hg hfr)
        have HBn := Lib.hid (below_app HB2.out (own_mono HO2.out (Nat.le_add_right _ 1)) hg (Nat.le_refl _))
        have hzn := Nat.le_trans hsz hg.size
        go_roundw
        case rel => exact ⟨k + 1, by omega, by go_num, by rw [HS.out, HW.out]; exact Lib.hid (OwnI.snoc ho), HBn, hzn⟩
        case measure => simp [intOf]; omega
    · have HE := Lib.hid (show c.gs.take k = c.gs from List.take_of_length_le (by omega))
      go_wp2
      go_ret
      exact RetI.mk (OwnI.mono (by have := HO.out; rw [HE.out] at this; exact this) (Nat.le_add_right _ _)) HB.out
set_option maxRecDepth 100000 in
set_option maxHeartbeats 2000000 in
theorem c_impl_WireValues {c : Cir} {gv ov va vb : Value} {a b : List Int} {w : World} (h : CirIn w gv ov c) (ha : Ints w va a) (hb : Ints w vb b) (hla : a.length ≤ 1048576) (hlb : b.length ≤ 1048576) :
    Calls Tryz.prog 77 #[cirV c gv ov, va, vb] w (RetIB w (wireVM c a b)) := by
  have H := Lib.hid h
  have HA := Lib.hid ha
  have HV := Lib.hid hb
  obtain ⟨hg, ho⟩ := h
  obtain ⟨A, cg, rfl, -⟩ := hg
  obtain ⟨A', co, rfl, -⟩ := ho
  obtain ⟨Aa, ca, rfl, -⟩ := ha
  obtain ⟨Ab, cb, rfl, -⟩ := hb
  unfold cirV
  obtain ⟨w0, hw0⟩ : ∃ W, w.alloc (.cells #[.int .i64 c.i0, .int .i64 c.i1, .slice A c.gs.length cg, .slice A' c.outs.length co] 26) = W := ⟨_, rfl⟩
  have HKC := Lib.hid (Blk.new w 26 #[.int .i64 c.i0, .int .i64 c.i1, .slice A c.gs.length cg, .slice A' c.outs.length co])
  rw [hw0] at HKC
  have HB : Hid (Below w.heap.size w w0) := by rw [← hw0]; exact (Below.refl w.heap.size w).alloc (Nat.le_refl _) _
  have CA := Lib.hid (c_impl_areInputs (H.out.below HB.out) (HA.out.below HB.out) (HV.out.below HB.out) hla hlb)
  have x0 := HKC.out.cell 0
  have x1 := HKC.out.cell 1
  have x2 := HKC.out.cell 2
  have x3 := HKC.out.cell 3
  unfold cirV at CA
  go_enter Tryz.func77, Tryz.ntmps77
  go_wp2_with fail
  clear hw0 x0 x1 x2 x3
  refine CA.out.mono ?_
  rintro e w1 ⟨rfl, hb1⟩
  replace HKC := Lib.hid (HKC.out.step hb1)
  replace HB := Lib.hid (below_step HB.out hb1)
  clear CA hb1
  rcases h1 : askedB c a b with _ | _
  · have HM := Lib.hid (show wireVM c a b = none by simp [wireVM, h1])
    go_wp2
    go_ret2; rw [HM.out]; exact RetIB.no_below HB.out
  have HM := Lib.hid (show wireVM c a b = some (valsM (a ++ b) c.gs) by simp [wireVM, h1])
  have HC := Lib.hid (askedB_of h1).1
  have HIN := Lib.hid (asked_in h1)
  have HBT := Lib.hid (show ∀ x ∈ a ++ b, x = 0 ∨ x = 1 from fun x hx => bit_cases (asked_in h1).2 hx)
  have y0 := belowCell (HKC.out.cell 0)
  have y1 := belowCell (HKC.out.cell 1)
  have y2 := belowCell (HKC.out.cell 2)
  have y3 := belowCell (HKC.out.cell 3)
  have CV := Lib.hid (fun (W : World) (u : Value) (hB : Below w1.heap.size w1 W) (hu : Ints W u (a ++ b)) => c_C_values (w := W) (H.out.below (below_step HB.out hB)) HC.out hu HIN.out.1 HBT.out)
  unfold cirV at CV
  clear h1
  go_wp2_with fail
  go_region_held3 (fun w' => Below w1.heap.size w1 w')
    (first | (refine below_step ?_ HD.out; assumption) | (exact (Below.refl _ _).drew))
    (first
      | (go_at_call 82; refine (c_impl_with (HA.out.below (below_step HB.out (by assumption))) (HV.out.below (below_step HB.out (by assumption))) hla hlb).mono ?_; rintro e wz ⟨u, rfl, hu, hb⟩; have HD := Lib.hid hb; have HU := Lib.hid hu.ints)
      | (go_at_call 142; refine (CV.out _ _ (by assumption) HU.out).mono ?_; rintro e wy ⟨u2, rfl, hu2, hb⟩; have HD := Lib.hid hb; have HU2 := Lib.hid (hu2.mono (Nat.le_trans HB.out.size (Below.size (B := w1.heap.size) (by assumption))))))
  all_goals
    go_wp2
    go_ret2; rw [HM.out]
    exact RetIB.yes HU2.out (below_step HB.out (by assumption))
set_option maxRecDepth 100000 in
set_option maxHeartbeats 2000000 in
theorem c_impl_EvalCircuit {c : Cir} {gv ov va vb : Value} {a b : List Int} {w : World} (h : CirIn w gv ov c) (ha : Ints w va a) (hb : Ints w vb b) (hla : a.length ≤ 1048576) (hlb : b.length ≤ 1048576) :
    Calls Tryz.prog 18 #[cirV c gv ov, va, vb] w (RetIB w (clearM c a b)) := by
  have H := Lib.hid h
  have HA := Lib.hid ha
  have HV := Lib.hid hb
  obtain ⟨hg, ho⟩ := h
  obtain ⟨A, cg, rfl, -⟩ := hg
  obtain ⟨A', co, rfl, -⟩ := ho
  obtain ⟨Aa, ca, rfl, -⟩ := ha
  obtain ⟨Ab, cb, rfl, -⟩ := hb
  unfold cirV
  obtain ⟨w0, hw0⟩ : ∃ W, w.alloc (.cells #[.int .i64 c.i0, .int .i64 c.i1, .slice A c.gs.length cg, .slice A' c.outs.length co] 26) = W := ⟨_, rfl⟩
  have HKC := Lib.hid (Blk.new w 26 #[.int .i64 c.i0, .int .i64 c.i1, .slice A c.gs.length cg, .slice A' c.outs.length co])
  rw [hw0] at HKC
  have HB : Hid (Below w.heap.size w w0) := by rw [← hw0]; exact (Below.refl w.heap.size w).alloc (Nat.le_refl _) _
  have CA := Lib.hid (c_impl_WireValues (H.out.below HB.out) (HA.out.below HB.out) (HV.out.below HB.out) hla hlb)
  unfold cirV at CA
  have x0 := HKC.out.cell 0
  have x1 := HKC.out.cell 1
  have x2 := HKC.out.cell 2
  have x3 := HKC.out.cell 3
  go_enter Tryz.func18, Tryz.ntmps18
  go_wp2_with fail
  clear hw0 x0 x1 x2 x3
  refine CA.out.mono ?_
  rintro e w1 ⟨u, rfl, hu, hb1⟩
  replace HKC := Lib.hid (HKC.out.step hb1)
  have hsz := HB.out.size
  replace HB := Lib.hid (below_step HB.out hb1)
  clear CA hb1
  rcases h1 : askedB c a b with _ | _
  · have HM := Lib.hid (show clearM c a b = none by simp [clearM, h1])
    have HN := Lib.hid (show wireVM c a b = none by simp [wireVM, h1])
    rw [HN.out]
    go_wp2
    go_ret2; rw [HM.out]; exact RetIB.no_below HB.out
  have HM := Lib.hid (show clearM c a b = some (pickM (valsM (a ++ b) c.gs) c.outs) by simp [clearM, h1])
  have HN := Lib.hid (show wireVM c a b = some (valsM (a ++ b) c.gs) by simp [wireVM, h1])
  rw [HN.out] at hu ⊢
  have hvl := vals_len (a ++ b) c.gs
  have hai := (asked_in h1).1
  have hcb := cirB_bd (askedB_of h1).1
  have hco : ∀ k ∈ c.outs, 0 ≤ k ∧ k < ((valsM (a ++ b) c.gs).length : Int) := by
    intro k hk
    have h2 := allB_bd (cirB_outs (askedB_of h1).1) k hk
    rw [hvl]
    unfold Cir.wires at h2
    omega
  have HU := Lib.hid (show OwnI w1 w0.heap.size u (valsM (a ++ b) c.gs) from hu)
  obtain ⟨Au, cu, eu, -⟩ := HU.out.ints
  subst eu
  have y3 := HKC.out.cell 3
  have hvl2 : (valsM (a ++ b) c.gs).length ≤ 2097152 := by unfold Cir.ins at hai; omega
  have hol : c.outs.length ≤ 2097152 := by omega
  clear hu h1 hvl hai hcb
  go_wp2_with fail
  refine (c_impl_at HU.out.ints (H.out.below HB.out).outs hvl2 hol hco).mono ?_
  rintro e w2 ⟨u2, rfl, hu2, hb2⟩
  go_wp2
  go_ret2; rw [HM.out]
  exact RetIB.yes (hu2.mono HB.out.size) (below_step HB.out hb2)
end Go.Proofs.YtejeppjmlgfiaaaGreat

/- The plain laws of runs: what is decoded are the values in clear, and each label is the one that stands for its value. Conditions: those that each names. -/
namespace Go.Proofs.YtejeppjmlgfiaaaGreat
open Go.RowKit
set_option linter.unusedVariables false

section
variable {F : Int → Int → Int → List Int → Int} {Z : Int → Int → Int → Int → Int} {R : Int → Int → Int → Int → List Int} {m : Nat} {c : Cir} {key off : Int} {a b : List Int}
/-- What makes a scheme: its gates fit, its labels and rows are labels. -/
structure Schm (F : Int → Int → Int → List Int → Int) (Z : Int → Int → Int → Int → Int) (R : Int → Int → Int → Int → List Int) (m : Nat) : Prop where
  and : ∀ off, 0 ≤ off ∧ off ≤ 65535 ∧ off % 2 = 1 → AndOk off F (Z off) (R off)
  zbd : ∀ off, 0 ≤ off ∧ off ≤ 65535 → ∀ w x y, 0 ≤ x ∧ x ≤ 65535 → 0 ≤ y ∧ y ≤ 65535 → 0 ≤ Z off w x y ∧ Z off w x y ≤ 65535
  rbd : ∀ off, 0 ≤ off ∧ off ≤ 65535 → ∀ w x y, 0 ≤ x ∧ x ≤ 65535 → 0 ≤ y ∧ y ≤ 65535 → (R off w x y).length = m ∧ ∀ z ∈ R off w x y, 0 ≤ z ∧ z ≤ 65535
  tab : ∀ {key off : Int} {c : Cir}, cirB c = true → (0 ≤ off ∧ off ≤ 65535) → tabB m c (tabM (Z off) (R off) key off c) = true
  fbd : ∀ w x y r, 0 ≤ x ∧ x ≤ 65535 → (∀ z ∈ r, 0 ≤ z ∧ z ≤ 65535) → 0 ≤ F w x y r ∧ F w x y r ≤ 65535
theorem hgS : Schm joinM hgZ hgR 2 := ⟨fun off h => hg_and h, fun off h w x y hx hy => hgZ_bd h hx w y, fun off h w x y hx hy => hgR_bd h hx w y, fun hc ho => hg_tab_ok hc ho, joinM_ok⟩
theorem gbS : Schm openM gbZ gbR 3 := ⟨fun off h => gb_and h, fun off h w x y hx hy => gbZ_bd h w x y, fun off h w x y hx hy => gbR_bd h w x y, fun hc ho => gb_tab_ok hc ho, openM_ok⟩
/-- The labels, the values and the zero labels of all wires belong together. -/
theorem run_tied (S : Schm F Z R m) (h : askedB c a b = true) (ho : 0 ≤ off ∧ off ≤ 65535 ∧ off % 2 = 1) :
    Tied off (wiresM F (tabM (Z off) (R off) key off c) (lbInM key off (a ++ b)) c.gs).1 (valsM (a ++ b) c.gs) (zrM (Z off) (R off) key off c.ins.toNat c.gs).zs := by
  have hc := (askedB_of h).1
  have hin := asked_in h
  have hbt : ∀ x ∈ a ++ b, x = 0 ∨ x = 1 := fun x hx => bit_cases hin.2 hx
  have hci : ((c.ins.toNat : Nat) : Int) = c.ins := by have := cirB_bd hc; unfold Cir.ins; omega
  have := (garbled_run (F := F) (Z := Z off) (R := R off) (key := key) (off := off) (n := c.ins.toNat) (gs := c.gs) (m := m) (inp := a ++ b) (S.and off ho) ho (S.zbd off ⟨ho.1, ho.2.1⟩) (S.rbd off ⟨ho.1, ho.2.1⟩)
    (by omega) hbt (by rw [hci]; exact cirB_gates hc) (tabM (Z off) (R off) key off c) rfl rfl c.gs.length (Nat.le_refl _)).1
  rwa [List.take_of_length_le (Nat.le_refl _)] at this
theorem run_outs (h : askedB c a b = true) : ∀ k ∈ c.outs, 0 ≤ k ∧ k < ((zrM (Z off) (R off) key off c.ins.toNat c.gs).zs.length : Int) := by
  have hc := (askedB_of h).1
  have h0 : 0 ≤ c.ins := by have := cirB_bd hc; unfold Cir.ins; omega
  intro k hk
  have h1 := allB_bd (cirB_outs hc) k hk
  have h2 := (zr_inv (F := Z off) (R := R off) (key := key) (off := off) (n := c.ins.toNat) (cirB_kinds hc) c.gs.length (Nat.le_refl _)).1
  rw [List.take_of_length_le (Nat.le_refl _)] at h2
  unfold Cir.wires at h1
  omega
theorem run_zbd (S : Schm F Z R m) (ho : 0 ≤ off ∧ off ≤ 65535) (key : Int) (c : Cir) : ∀ x ∈ (zrM (Z off) (R off) key off c.ins.toNat c.gs).zs, 0 ≤ x ∧ x ≤ 65535 :=
  (zr_bd ho (S.zbd off ho) (S.rbd off ho) key c.ins.toNat c.gs).1
/-- What a run gives are the values in clear. -/
theorem run_clear (S : Schm F Z R m) {r : List Int} (h : runM F Z R c key a b = some r) : clearM c a b = some r := by
  unfold runM at h
  split at h
  · rename_i hq
    simp only [Bool.and_eq_true] at hq
    injection h with h
    subst h
    have ho := offM_bd key
    have ht := run_tied S (key := key) hq.1 ho
    have hz := run_zbd S ⟨ho.1, ho.2.1⟩ key c
    have hbt : ∀ x ∈ a ++ b, x = 0 ∨ x = 1 := fun x hx => bit_cases (asked_in hq.1).2 hx
    have := decode_run ht ho hz (vals_bit hbt c.gs) c.outs (run_outs hq.1)
    unfold clearM
    rw [if_pos hq.1]
    unfold outsM tabM
    simp only at this ⊢
    rw [← this]
    rfl
  · cases h
/-- Each label of an out is the one that stands for its value. -/
theorem run_labels (S : Schm F Z R m) (hq : askedB c a b = true) {i : Nat} {k : Int} (hk : c.outs[i]? = some k) :
    ∃ v l z, (pickM (valsM (a ++ b) c.gs) c.outs)[i]? = some v ∧ (outsM F Z R c key a b)[i]? = some l ∧ (zrM (Z (offM key)) (R (offM key)) key (offM key) c.ins.toNat c.gs).zs[k.toNat]? = some z ∧
      0 ≤ k ∧ k < ((zrM (Z (offM key)) (R (offM key)) key (offM key) c.ins.toNat c.gs).zs.length : Int) ∧ (v = 0 ∨ v = 1) ∧ (0 ≤ z ∧ z ≤ 65535) ∧ l = if v = 1 then xorI z (offM key) else z := by
  have ho := offM_bd key
  have ht := run_tied S (key := key) hq ho
  have hb := run_outs (Z := Z) (R := R) (key := key) (off := offM key) hq k (List.mem_of_getElem? hk)
  have hz := run_zbd S ⟨ho.1, ho.2.1⟩ key c
  have hbt : ∀ x ∈ a ++ b, x = 0 ∨ x = 1 := fun x hx => bit_cases (asked_in hq).2 hx
  have hv := elt_bit (vals_bit hbt c.gs) k
  have hzb := elt_bd (k := k) hz
  obtain ⟨j, rfl, hj, hje⟩ := elt_at hb.1 hb.2
  refine ⟨elt (valsM (a ++ b) c.gs) (j : Int), elt (wiresM F (tabM (Z (offM key)) (R (offM key)) key (offM key) c) (lbInM key (offM key) (a ++ b)) c.gs).1 (j : Int), elt (zrM (Z (offM key)) (R (offM key)) key (offM key) c.ins.toNat c.gs).zs (j : Int), ?_, ?_, hje, hb.1, hb.2, hv, hzb, ?_⟩
  · unfold pickM; rw [List.getElem?_map, hk]; rfl
  · unfold outsM pickM; rw [List.getElem?_map, hk]; rfl
  · rw [ht.get hb.1 hb.2]
    rcases hv with e | e <;> rw [e]
    · rw [if_neg (by decide), Int.mul_zero, xorI_zero hzb.1]
    · rw [if_pos rfl, Int.mul_one]
theorem run_zeros (h : askedB c a b = true) (hk : inB key 0 1000000000 = true) : zerosM Z R c key (offM key) = some (zrM (Z (offM key)) (R (offM key)) key (offM key) c.ins.toNat c.gs).zs ∧ tablesM Z R c key (offM key) = some (tabM (Z (offM key)) (R (offM key)) key (offM key) c) := by
  have hkey : keyB c key (offM key) = true := by unfold keyB; rw [(askedB_of h).1, hk, offB_off]; rfl
  exact ⟨by unfold zerosM; rw [if_pos hkey], by unfold tablesM; rw [if_pos hkey]⟩
theorem run_some {r : List Int} (h : runM F Z R c key a b = some r) : askedB c a b = true ∧ inB key 0 1000000000 = true := by
  unfold runM at h
  split at h
  · rename_i hq; simpa only [Bool.and_eq_true] using hq
  · cases h
/-- Made tables are valid, and as many as there are gates. -/
theorem made_ok (S : Schm F Z R m) {T : Gb} (h : tablesM Z R c key off = some T) : isTabM m c T = some true ∧ rowsM m c = some ((m : Int) * (T.rows.length : Int)) ∧ cirB c = true ∧ T.sz ≤ 2000 ∨ 3 < m := by
  by_cases hm : 3 < m
  · exact Or.inr hm
  refine Or.inl ?_
  unfold tablesM at h
  split at h
  · rename_i hq
    injection h with h
    have hk := keyB_of hq
    have ht : tabB m c T = true := by rw [← h]; exact S.tab hk.1 hk.2.2.1
    refine ⟨by unfold isTabM; rw [if_pos hk.1, ht], ?_, hk.1, tab_sz hk.1 ht (by omega)⟩
    unfold rowsM
    rw [if_pos hk.1, (tabB_of ht).1]
  · cases h
theorem made_sz (S : Schm F Z R m) (hm : m ≤ 3) : ((tablesM Z R c key off).getD Gb.none).sz ≤ 2000 := by
  rcases h : tablesM Z R c key off with _ | T
  · decide
  · rcases made_ok S h with h1 | h1
    · exact h1.2.2.2
    · omega
theorem made_len : ((zerosM Z R c key off).getD []).length ≤ 400 := by
  unfold zerosM
  split
  · rename_i hq
    have hc := (keyB_of hq).1
    have hb := cirB_bd hc
    have h2 := (zr_inv (F := Z off) (R := R off) (key := key) (off := off) (n := c.ins.toNat) (cirB_kinds hc) c.gs.length (Nat.le_refl _)).1
    rw [List.take_of_length_le (Nat.le_refl _)] at h2
    simp only [Option.getD_some, h2]
    unfold Cir.ins
    omega
  · simp
theorem clear_len : ((clearM c a b).getD []).length ≤ 40 := by
  unfold clearM
  split
  · rename_i hq
    have hb := cirB_bd (askedB_of hq).1
    simp only [Option.getD_some, pickM_length]
    omega
  · simp
end
end Go.Proofs.YtejeppjmlgfiaaaGreat

/- What a run of a halved circuit that came to something gives: contracts of all calls of the law. Conditions: the lists are short. -/
namespace Go.Proofs.YtejeppjmlgfiaaaGreat
open Go.RowKit
set_option linter.unusedVariables false

/-- A list comes back, and that it could. -/
def YesI (w : World) (l : List Int) (e : Ending) (w' : World) : Prop := ∃ u, e = .returned (.tuple #[u, .bool true]) ∧ OwnI w' w.heap.size u l ∧ Below w.heap.size w w'
def YesG (w : World) (g : Gb) (e : Ending) (w' : World) : Prop := ∃ rv ov cv vs, e = .returned (.tuple #[gbV rv ov cv, .bool true]) ∧ OwnGb w' w.heap.size rv ov cv vs g ∧ Below w.heap.size w w'
theorem RetIB.toYes {w w' : World} {l : List Int} {e : Ending} (h : RetIB w (some l) e w') : YesI w l e w' := h
theorem RetGbB.toYes {w w' : World} {g : Gb} {e : Ending} (h : RetGbB w (some g) e w') : YesG w g e w' := h
/-- What a run makes: the zero labels, the labels of outs and of inputs, the tables, the offset. -/
structure HvD where
  zs : List Int
  outs : List Int
  inp : List Int
  t : Gb
  r0 : Int
/-- What the law asks of a run that came to something. -/
structure HvP (c : Cir) (key : Int) (a b r : List Int) (P : HvD) : Prop where
  hob : 0 ≤ P.r0 ∧ P.r0 ≤ 65535
  hr : r.length = c.outs.length
  ho : P.outs.length = c.outs.length
  hol : c.outs.length ≤ 40
  hzl : P.zs.length ≤ 400
  hil : P.inp.length ≤ 40
  c7 : ∀ {W : World}, Calls Tryz.prog 19 #[.int .i64 key] W fun e w' => e = .returned (.tuple #[.int .i64 P.r0, .bool true]) ∧ Below W.heap.size W w'
  hlab : ∀ (i : Nat) (k : Int), c.outs[i]? = some k → ∃ v l z, r[i]? = some v ∧ P.outs[i]? = some l ∧ P.zs[k.toNat]? = some z ∧ 0 ≤ k ∧ k < (P.zs.length : Int) ∧ (v = 0 ∨ v = 1) ∧ (0 ≤ z ∧ z ≤ 65535) ∧ l = if v = 1 then xorI z P.r0 else z
  hts : P.t.sz ≤ 2000
  c1 : ∀ {W : World} {A A' Aa Ab : Option Addr} {k k' ka kb : Nat}, CirIn W (.slice A c.gs.length k) (.slice A' c.outs.length k') c → Ints W (.slice Aa a.length ka) a → Ints W (.slice Ab b.length kb) b →
        Calls Tryz.prog 18 #[.agg #[.int .i64 c.i0, .int .i64 c.i1, .slice A c.gs.length k, .slice A' c.outs.length k'], .slice Aa a.length ka, .slice Ab b.length kb] W (YesI W r)
  c2 : ∀ {W : World} {A A' : Option Addr} {k k' : Nat}, CirIn W (.slice A c.gs.length k) (.slice A' c.outs.length k') c →
        Calls Tryz.prog 10 #[.agg #[.int .i64 c.i0, .int .i64 c.i1, .slice A c.gs.length k, .slice A' c.outs.length k'], .int .i64 key, .int .i64 P.r0] W (YesG W P.t)
  c3 : ∀ {W : World} {A A' Aa Ab : Option Addr} {k k' ka kb : Nat}, CirIn W (.slice A c.gs.length k) (.slice A' c.outs.length k') c → Ints W (.slice Aa a.length ka) a → Ints W (.slice Ab b.length kb) b →
        Calls Tryz.prog 20 #[.agg #[.int .i64 c.i0, .int .i64 c.i1, .slice A c.gs.length k, .slice A' c.outs.length k'], .int .i64 key, .int .i64 P.r0, .slice Aa a.length ka, .slice Ab b.length kb] W (YesI W P.inp)
  c4 : ∀ {W : World} {A A' : Option Addr} {k k' : Nat} {rv nv cv u : Value}, CirIn W (.slice A c.gs.length k) (.slice A' c.outs.length k') c → GbIn W rv nv cv P.t → Ints W u P.inp →
        Calls Tryz.prog 21 #[.agg #[.int .i64 c.i0, .int .i64 c.i1, .slice A c.gs.length k, .slice A' c.outs.length k'], .agg #[rv, nv, cv], u] W (YesI W P.outs)
  c5 : ∀ {W : World} {A A' : Option Addr} {k k' : Nat}, CirIn W (.slice A c.gs.length k) (.slice A' c.outs.length k') c →
        Calls Tryz.prog 12 #[.agg #[.int .i64 c.i0, .int .i64 c.i1, .slice A c.gs.length k, .slice A' c.outs.length k'], .int .i64 key, .int .i64 P.r0] W (YesI W P.zs)
  c6 : ∀ {W : World} {A A' : Option Addr} {k k' : Nat}, CirIn W (.slice A c.gs.length k) (.slice A' c.outs.length k') c →
        Calls Tryz.prog 13 #[.agg #[.int .i64 c.i0, .int .i64 c.i1, .slice A c.gs.length k, .slice A' c.outs.length k'], .int .i64 key, .int .i64 P.r0] W (YesI W P.zs)
theorem hv_pack {c : Cir} {key : Int} {a b r : List Int} (hR : runM joinM hgZ hgR c key a b = some r) (hla : a.length ≤ 1048576) (hlb : b.length ≤ 1048576) : ∃ P : HvD, HvP c key a b r P := by
  have hcl := run_clear hgS hR
  obtain ⟨hq, hkey⟩ := run_some hR
  have hz := run_zeros (Z := hgZ) (R := hgR) hq hkey
  have ht := hg_tab_ok (key := key) (askedB_of hq).1 (off_lab key)
  have hin := run_in hq hkey
  have hev := run_ev (F := joinM) (Z := hgZ) (R := hgR) (key := key) hq ht
  have hil := run_inl (key := key) hq
  have htz := tab_sz (askedB_of hq).1 ht (by omega)
  have hcb := cirB_bd (askedB_of hq).1
  have hzl := made_len (Z := hgZ) (R := hgR) (key := key) (off := offM key) (c := c)
  have hrc : pickM (valsM (a ++ b) c.gs) c.outs = r := by have := hcl; unfold clearM at this; rw [if_pos hq] at this; injection this
  have hob := offM_bd key
  rw [hz.1] at hzl
  have hinl : (lbInM key (offM key) (a ++ b)).length ≤ 40 := by unfold Cir.ins at hil; omega
  refine ⟨⟨(zrM (hgZ (offM key)) (hgR (offM key)) key (offM key) c.ins.toNat c.gs).zs, outsM joinM hgZ hgR c key a b, lbInM key (offM key) (a ++ b), tabM (hgZ (offM key)) (hgR (offM key)) key (offM key) c, offM key⟩, ⟨hob.1, hob.2.1⟩, by rw [← hrc, pickM_length], by show (outsM joinM hgZ hgR c key a b).length = _; unfold outsM; rw [pickM_length], hcb.2.2.2.2.2, hzl, hinl, fun {W} => (c_impl_OffsetFrom (w := W)).mono fun e w' ⟨h1, h2⟩ => ⟨by rw [h1, show offsetM key = some (offM key) by unfold offsetM; rw [hkey]; rfl]; rfl, h2⟩, fun i k hk => by
    have h9 := run_labels (key := key) hgS hq hk
    rw [hrc] at h9
    exact h9, htz, fun h1 h2 h3 => ?_, fun h1 => ?_, fun h1 h2 h3 => ?_, fun h1 h2 h3 => ?_, fun h1 => ?_, fun h1 => ?_⟩
  · have := c_impl_EvalCircuit h1 h2 h3 hla hlb; rw [hcl] at this; exact this.mono fun e w' h => h.toYes
  · have := c_impl_HalveCircuit (key := key) (off := offM key) h1; rw [hz.2] at this; exact this.mono fun e w' h => h.toYes
  · have := c_impl_InputLabels (key := key) (r := offM key) h1 h2 h3 hla hlb; rw [hin] at this; exact this.mono fun e w' h => h.toYes
  · have := c_impl_EvalHalved h1 h2 (Nat.le_trans htz (by omega)) h3 (Nat.le_trans hinl (by omega)); rw [hev] at this; exact this.mono fun e w' h => h.toYes
  · have := c_impl_HalfZeros (key := key) (off := offM key) h1; rw [hz.1] at this; exact this.mono fun e w' h => h.toYes
  · have := c_spec_HalfZeros (key := key) (off := offM key) h1; rw [hz.1] at this; exact this.mono fun e w' h => h.toYes

end Go.Proofs.YtejeppjmlgfiaaaGreat

/- Contracts of the test of labels of the outs. Conditions: the lists are short. -/
namespace Go.Proofs.YtejeppjmlgfiaaaGreat
open Go.RowKit
set_option linter.unusedVariables false

def trueB (zs : List Int) (off : Int) (ws os : List Int) : Bool := (ws.zip os).all fun p => (bitM (elt zs p.1) off p.2).isSome
def trueM (c : Cir) (key off : Int) (os : List Int) : Option Bool :=
  if keyB c key off && allB os 0 65535 && decide (os.length = c.outs.length) then some (trueB (zrM (gbZ off) (gbR off) key off c.ins.toNat c.gs).zs off c.outs os) else none
theorem zip_take {α β : Type} (a : List α) (b : List β) (k : Nat) {x : α} {y : β} (hx : a[k]? = some x) (hy : b[k]? = some y) : (a.zip b).take (k + 1) = (a.zip b).take k ++ [(x, y)] := by
  refine take_snoc ?_
  rw [List.getElem?_zip_eq_some]
  exact ⟨hx, hy⟩
theorem true_step {zs ws os : List Int} {off : Int} {k : Nat} {x y : Int} (hx : ws[k]? = some x) (hy : os[k]? = some y) (ha : ((ws.zip os).take k).all (fun p => (bitM (elt zs p.1) off p.2).isSome) = true) (hb : (bitM (elt zs x) off y).isSome = true) :
    ((ws.zip os).take (k + 1)).all (fun p => (bitM (elt zs p.1) off p.2).isSome) = true := by
  rw [zip_take ws os k hx hy, List.all_append, ha]; simp [hb]
theorem true_no {zs ws os : List Int} {off : Int} {k : Nat} {x y : Int} (hx : ws[k]? = some x) (hy : os[k]? = some y) (hb : (bitM (elt zs x) off y).isSome = false) : trueB zs off ws os = false := by
  have hm : (x, y) ∈ ws.zip os := List.mem_of_getElem? (i := k) (by rw [List.getElem?_zip_eq_some]; exact ⟨hx, hy⟩)
  unfold trueB
  rw [List.all_eq_false]
  exact ⟨(x, y), hm, by simp [hb]⟩
theorem true_all {zs ws os : List Int} {off : Int} (hl : os.length = ws.length) (ha : ((ws.zip os).take ws.length).all (fun p => (bitM (elt zs p.1) off p.2).isSome) = true) : trueB zs off ws os = true := by
  rw [List.take_of_length_le (by rw [List.length_zip, hl]; omega)] at ha
  exact ha
theorem bitM_or {z off o : Int} (hz : 0 ≤ z ∧ z ≤ 65535) (ho : offB off = true) : (bitM z off o).isSome = (decide (o = z) || decide (o = xorI z off)) := by
  unfold bitM
  rw [inB_mk hz.1 hz.2, ho]
  by_cases h1 : o = z
  · simp [h1]
  · by_cases h2 : o = xorI z off
    · simp only [Bool.and_self, if_true, h2, decide_true, Bool.or_true]; split <;> rfl
    · simp [h1, h2]
set_option maxRecDepth 100000 in
set_option maxHeartbeats 2000000 in
theorem c_impl_TrueLabels {c : Cir} {gv ov vo : Value} {key off : Int} {os : List Int} {w : World} (h : CirIn w gv ov c) (hv : Ints w vo os) (hl : os.length ≤ 1048576) :
    Calls Tryz.prog 29 #[cirV c gv ov, .int .i64 key, .int .i64 off, vo] w fun e w' => e = .returned (.tuple #[.bool (bV (trueM c key off os)), .bool (bB (trueM c key off os))]) ∧ Below w.heap.size w w' := by
  have H := Lib.hid h
  have HV := Lib.hid hv
  obtain ⟨hg, hoo⟩ := h
  obtain ⟨A, cg, rfl, -⟩ := hg
  obtain ⟨A', co, rfl, hlc, hmc, hrc⟩ := hoo
  obtain ⟨B, cb, rfl, hlo, hmo, hro⟩ := hv
  have HRC := Lib.hid hrc
  have HRO := Lib.hid hro
  unfold maxLen at hmc hmo
  clear hrc hro
  unfold cirV
  obtain ⟨w0, hw0⟩ : ∃ W, w.alloc (.cells #[.int .i64 c.i0, .int .i64 c.i1, .slice A c.gs.length cg, .slice A' c.outs.length co] 26) = W := ⟨_, rfl⟩
  have HKC : Hid (Blk w0 w.heap.size 26 #[.int .i64 c.i0, .int .i64 c.i1, .slice A c.gs.length cg, .slice A' c.outs.length co]) := by rw [← hw0]; exact Blk.new _ _ _
  have HB : Hid (Below w.heap.size w w0) := by rw [← hw0]; exact (Below.refl _ _).alloc (Nat.le_refl _) _
  have x0 : w0.cell? ⟨w.heap.size, 0, none⟩ = some (.int .i64 c.i0) := HKC.out.cell 0
  have x1 : w0.cell? ⟨w.heap.size, 1, none⟩ = some (.int .i64 c.i1) := HKC.out.cell 1
  have x2 : w0.cell? ⟨w.heap.size, 2, none⟩ = some (.slice A c.gs.length cg) := HKC.out.cell 2
  have x3 : w0.cell? ⟨w.heap.size, 3, none⟩ = some (.slice A' c.outs.length co) := HKC.out.cell 3
  rcases hk : keyB c key off with _ | _
  · have HM := Lib.hid (show trueM c key off os = none by unfold trueM; rw [hk]; rfl)
    have HZ := Lib.hid (show zerosM gbZ gbR c key off = none by unfold zerosM; rw [hk]; rfl)
    go_enter Tryz.func29, Tryz.ntmps29
    go_wp2_with fail
    refine (c_impl_ZeroLabels (H.out.below HB.out)).mono ?_
    rintro e w1 ⟨u, rfl, hu, hb1⟩
    rw [HZ.out]
    clear hw0
    go_wp2
    go_ret2
    exact ⟨by rw [HM.out]; rfl, below_step HB.out hb1⟩
  · have HZ := Lib.hid (show zerosM gbZ gbR c key off = some (zrM (gbZ off) (gbR off) key off c.ins.toNat c.gs).zs by unfold zerosM; rw [hk]; rfl)
    have HKV := Lib.hid (keyB_of hk)
    have hlc40 := (cirB_bd HKV.out.1).2.2.2.2.2
    have hins : 0 ≤ c.ins := by have := cirB_bd HKV.out.1; unfold Cir.ins; omega
    have HOB := Lib.hid (zr_outs (F := gbZ off) (R := gbR off) (key := key) (off := off) HKV.out.1 hins)
    have hzl : (zrM (gbZ off) (gbR off) key off c.ins.toNat c.gs).zs.length ≤ 340 := by
      have h1 := zr_len (F := gbZ off) (R := gbR off) (key := key) (off := off) HKV.out.1
      have := cirB_bd HKV.out.1
      unfold Cir.ins at *; omega
    rcases (Decidable.em (os.length = c.outs.length)).symm with hlen | hlen
    · have HM := Lib.hid (show trueM c key off os = none by unfold trueM; simp [hlen])
      have hne : ¬ (os.length : Int) = (c.outs.length : Int) := by omega
      rcases ha : allB os 0 65535 with _ | _
      all_goals
        go_enter Tryz.func29, Tryz.ntmps29
        go_wp2_with fail
        refine (c_impl_ZeroLabels (H.out.below HB.out)).mono ?_
        rintro e w1 ⟨u, rfl, hu, hb1⟩
        rw [HZ.out]
        clear hw0
        have x3 : w1.cell? ⟨w.heap.size, 3, none⟩ = some (.slice A' c.outs.length co) := (HKC.out.step hb1).cell 3
        have HB1 := Lib.hid (below_step HB.out hb1)
        go_wp2_with fail
        refine (c_impl_areLabels (HV.out.below HB1.out) (by omega)).mono ?_
        rintro e w2 ⟨rfl, hb2⟩
        replace x3 := belowCell x3 _ hb2
        go_wp2
        go_ret2
        exact ⟨by rw [HM.out]; rfl, below_step HB1.out hb2⟩
    rcases ha : allB os 0 65535 with _ | _
    · have HM := Lib.hid (show trueM c key off os = none by unfold trueM; simp [ha])
      clear hlen
      go_enter Tryz.func29, Tryz.ntmps29
      go_wp2_with fail
      refine (c_impl_ZeroLabels (H.out.below HB.out)).mono ?_
      rintro e w1 ⟨u, rfl, hu, hb1⟩
      rw [HZ.out]
      clear hw0
      have HB1 := Lib.hid (below_step HB.out hb1)
      go_wp2_with fail
      refine (c_impl_areLabels (HV.out.below HB1.out) (by omega)).mono ?_
      rintro e w2 ⟨rfl, hb2⟩
      go_wp2
      go_ret2
      exact ⟨by rw [HM.out]; rfl, below_step HB1.out hb2⟩
    · have HM := Lib.hid (show trueM c key off os = some (trueB (zrM (gbZ off) (gbR off) key off c.ins.toNat c.gs).zs off c.outs os) by unfold trueM; simp [hk, ha, hlen])
      have HL := Lib.hid hlen
      obtain ⟨zs, hzs⟩ : ∃ zs, (zrM (gbZ off) (gbR off) key off c.ins.toNat c.gs).zs = zs := ⟨_, rfl⟩
      rw [hzs] at HM HZ HOB hzl
      clear hzs hlen
      have hcond : ((os.length : Int) != (c.outs.length : Int)) = false := by have := HL.out; simp; omega
      have hcond2 : ((os.length : Int) == (c.outs.length : Int)) = true := by have := HL.out; simp; omega
      go_enter Tryz.func29, Tryz.ntmps29
      go_wp2_with fail
      refine (c_impl_ZeroLabels (H.out.below HB.out)).mono ?_
      rintro e w1 ⟨u, rfl, hu, hb1⟩
      rw [HZ.out] at hu ⊢
      clear hw0
      have HU := Lib.hid (show OwnI w1 w0.heap.size u zs from hu)
      have HKC1 := Lib.hid (HKC.out.step hb1)
      have x3 : w1.cell? ⟨w.heap.size, 3, none⟩ = some (.slice A' c.outs.length co) := HKC1.out.cell 3
      have HB1 := Lib.hid (below_step HB.out hb1)
      obtain ⟨Az, cz, rfl, hlz, hmz, -⟩ := own_form hu
      clear hu hb1
      go_wp2_with fail
      refine (c_impl_areLabels (HV.out.below HB1.out) (by omega)).mono ?_
      rintro e w2 ⟨rfl, hb2⟩
      replace x3 := belowCell x3 _ hb2
      replace HU := Lib.hid (HU.out.below hb2)
      replace HB1 := Lib.hid (below_step HB1.out hb2)
      clear hb2
      go_wp2
      clear x3 hcond hcond2
      go_loopw [41] (fun i wr => ∃ k : Nat, k ≤ c.outs.length ∧ i = .int .i64 k ∧ Hid (((c.outs.zip os).take k).all (fun p => (bitM (elt zs p.1) off p.2).isSome) = true) ∧ Hid (Below w2.heap.size w2 wr)) (fun i _ => c.outs.length - (intOf i).toNat)
      case atStart => exact ⟨0, Nat.zero_le _, rfl, Lib.hid rfl, Lib.hid (Below.refl _ _)⟩
      case round =>
        obtain ⟨k, hk2, rfl, HP, HBR⟩ := hrel
        obtain ⟨wa, rfl⟩ : ∃ W, W = wr := ⟨wr, rfl⟩
        have HBA := Lib.hid (below_step HB1.out HBR.out)
        by_cases hlt : k < c.outs.length
        · obtain ⟨b1, o1, wv, rfl, hbl1, hwv, hc1⟩ := (HRC.out.below HBA.out).int_at hlt
          obtain ⟨b2, o2, ov', rfl, hbl2, hov, hc2⟩ := (HRO.out.below HBA.out).int_at (k := k) (by have := HL.out; omega)
          have hwb := HOB.out wv (List.mem_of_getElem? hwv)
          obtain ⟨m, rfl, hm, hme⟩ := elt_at (l := zs) hwb.1 hwb.2
          obtain ⟨gz, cz', ez, -, hgz, hcz⟩ := own_at (HU.out.below HBR.out) (by intro e; rw [e] at hm; simp at hm)
          injection ez with ez1 ez2 ez3
          subst ez1
          have hc3 := hcz m _ hme
          have hkl : (k : Int) < (os.length : Int) := by have := HL.out; omega
          have hm0 : (0 : Int) ≤ (m : Int) := Int.natCast_nonneg _
          have hm1 : (m : Int) < (zs.length : Int) := by omega
          have HW := Lib.hid hwv
          have HO := Lib.hid hov
          have HC := Lib.hid (fun W => c_impl_BitOf (w := W) (z := elt zs (m : Int)) (r := off) (l := ov'))
          have HST := Lib.hid (fun hb => true_step (off := off) HW.out HO.out HP.out hb)
          have HNO := Lib.hid (fun hb => true_no (zs := zs) (off := off) HW.out HO.out hb)
          clear hwv hov hme hcz hwb ez2 ez3
          rcases hbm : bitM (elt zs (m : Int)) off ov' with _ | y
          · rw [hbm] at HC HNO
            have HTF := Lib.hid (HNO.out rfl)
            clear HNO HST hbm
            generalize elt zs (m : Int) = z at *
            go_wp2_with fail
            go_quiet ((go_at_call 96; exact quiet_left (HC.out _)))
            go_wp2
            go_ret2
            exact ⟨by rw [HM.out, HTF.out]; rfl, below_drewN HBA.out _⟩
          · rw [hbm] at HC HST
            have HTF := Lib.hid (HST.out rfl)
            clear HNO HST hbm
            generalize elt zs (m : Int) = z at *
            go_wp2_with fail
            go_quiet ((go_at_call 96; exact quiet_left (HC.out _)))
            go_wp2
            go_roundw
            case rel => exact ⟨k + 1, by omega, by go_num, HTF, Lib.hid (below_drewN HBR.out _)⟩
            case measure => simp [intOf]; omega
        · obtain rfl : k = c.outs.length := by omega
          have HT := Lib.hid (true_all HL.out HP.out)
          go_wp2
          go_ret2
          exact ⟨by rw [HM.out, HT.out]; rfl, HBA.out⟩
set_option maxRecDepth 100000 in
set_option maxHeartbeats 2000000 in
theorem c_spec_TrueLabels {c : Cir} {gv ov vo : Value} {key off : Int} {os : List Int} {w : World} (h : CirIn w gv ov c) (hv : Ints w vo os) (hl : os.length ≤ 1048576) :
    Calls Tryz.prog 49 #[cirV c gv ov, .int .i64 key, .int .i64 off, vo] w fun e w' => e = .returned (.tuple #[.bool (bV (trueM c key off os)), .bool (bB (trueM c key off os))]) ∧ Below w.heap.size w w' := by
  have H := Lib.hid h
  have HV := Lib.hid hv
  obtain ⟨hg, hoo⟩ := h
  obtain ⟨A, cg, rfl, -⟩ := hg
  obtain ⟨A', co, rfl, hlc, hmc, hrc⟩ := hoo
  obtain ⟨B, cb, rfl, hlo, hmo, hro⟩ := hv
  have HRC := Lib.hid hrc
  have HRO := Lib.hid hro
  unfold maxLen at hmc hmo
  clear hrc hro
  unfold cirV
  obtain ⟨w0, hw0⟩ : ∃ W, w.alloc (.cells #[.int .i64 c.i0, .int .i64 c.i1, .slice A c.gs.length cg, .slice A' c.outs.length co] 26) = W := ⟨_, rfl⟩
  have HKC : Hid (Blk w0 w.heap.size 26 #[.int .i64 c.i0, .int .i64 c.i1, .slice A c.gs.length cg, .slice A' c.outs.length co]) := by rw [← hw0]; exact Blk.new _ _ _
  have HB : Hid (Below w.heap.size w w0) := by rw [← hw0]; exact (Below.refl _ _).alloc (Nat.le_refl _) _
  have x0 : w0.cell? ⟨w.heap.size, 0, none⟩ = some (.int .i64 c.i0) := HKC.out.cell 0
  have x1 : w0.cell? ⟨w.heap.size, 1, none⟩ = some (.int .i64 c.i1) := HKC.out.cell 1
  have x2 : w0.cell? ⟨w.heap.size, 2, none⟩ = some (.slice A c.gs.length cg) := HKC.out.cell 2
  have x3 : w0.cell? ⟨w.heap.size, 3, none⟩ = some (.slice A' c.outs.length co) := HKC.out.cell 3
  rcases hk : keyB c key off with _ | _
  · have HM := Lib.hid (show trueM c key off os = none by unfold trueM; rw [hk]; rfl)
    go_enter Tryz.func49, Tryz.ntmps49
    go_wp2_with fail
    refine (c_spec_gbKeys (H.out.below HB.out)).mono ?_
    rintro e w1 ⟨rfl, hb1⟩
    clear hw0
    go_wp2
    go_ret2
    exact ⟨by rw [HM.out]; rfl, below_step HB.out hb1⟩
  · have HKV := Lib.hid (keyB_of hk)
    have HOFF := Lib.hid (show offB off = true by simp only [keyB, Bool.and_eq_true] at hk; exact hk.2)
    have hlc40 := (cirB_bd HKV.out.1).2.2.2.2.2
    have hins : 0 ≤ c.ins := by have := cirB_bd HKV.out.1; unfold Cir.ins; omega
    have HOB := Lib.hid (zr_outs (F := gbZ off) (R := gbR off) (key := key) (off := off) HKV.out.1 hins)
    have hzl : (zrM (gbZ off) (gbR off) key off c.ins.toNat c.gs).zs.length ≤ 340 := by
      have h1 := zr_len (F := gbZ off) (R := gbR off) (key := key) (off := off) HKV.out.1
      have := cirB_bd HKV.out.1
      unfold Cir.ins at *; omega
    have HZB := Lib.hid (zr_bd (m := 3) (F := gbZ off) (R := gbR off) HKV.out.2.2.1 (fun w x y _ _ => gbZ_bd HKV.out.2.2.1 w x y) (fun w x y _ _ => gbR_bd HKV.out.2.2.1 w x y) key c.ins.toNat c.gs).1
    rcases (Decidable.em (os.length = c.outs.length)).symm with hlen | hlen
    · have HM := Lib.hid (show trueM c key off os = none by unfold trueM; simp [hlen])
      have hne : ¬ (os.length : Int) = (c.outs.length : Int) := by omega
      go_enter Tryz.func49, Tryz.ntmps49
      go_wp2_with fail
      refine (c_spec_gbKeys (H.out.below HB.out)).mono ?_
      rintro e w1 ⟨rfl, hb1⟩
      clear hw0
      have x3 : w1.cell? ⟨w.heap.size, 3, none⟩ = some (.slice A' c.outs.length co) := (HKC.out.step hb1).cell 3
      go_wp2
      go_ret2
      exact ⟨by rw [HM.out]; rfl, below_step HB.out hb1⟩
    have hla : labsB os = allB os 0 65535 := by
      unfold labsB
      rw [show decide (os.length ≤ 400) = true by simp; omega, Bool.and_true]
    have HL := Lib.hid hlen
    have hcond : ((os.length : Int) != (c.outs.length : Int)) = false := by have := HL.out; simp; omega
    have hcond2 : ((os.length : Int) == (c.outs.length : Int)) = true := by have := HL.out; simp; omega
    rcases ha : allB os 0 65535 with _ | _
    · have HM := Lib.hid (show trueM c key off os = none by unfold trueM; simp [ha])
      clear hlen
      have HLA := Lib.hid (hla.trans ha)
      clear hla
      go_enter Tryz.func49, Tryz.ntmps49
      go_wp2_with fail
      refine (c_spec_gbKeys (H.out.below HB.out)).mono ?_
      rintro e w1 ⟨rfl, hb1⟩
      clear hw0
      have HB1 := Lib.hid (below_step HB.out hb1)
      have x3 : w1.cell? ⟨w.heap.size, 3, none⟩ = some (.slice A' c.outs.length co) := (HKC.out.step hb1).cell 3
      go_wp2_with fail
      refine (c_spec_lbAll (HV.out.below HB1.out) (by omega)).mono ?_
      rintro e w' ⟨rfl, rfl⟩
      rw [HLA.out]
      go_wp2
      go_ret2
      exact ⟨by rw [HM.out]; rfl, HB1.out⟩
    · have HM := Lib.hid (show trueM c key off os = some (trueB (zrM (gbZ off) (gbR off) key off c.ins.toNat c.gs).zs off c.outs os) by unfold trueM; simp [hk, ha, hlen])
      have HLA := Lib.hid (hla.trans ha)
      clear hla hlen
      obtain ⟨zs, hzs⟩ : ∃ zs, (zrM (gbZ off) (gbR off) key off c.ins.toNat c.gs).zs = zs := ⟨_, rfl⟩
      rw [hzs] at HM HOB hzl HZB
      have HZE := Lib.hid hzs
      clear hzs
      go_enter Tryz.func49, Tryz.ntmps49
      go_wp2_with fail
      refine (c_spec_gbKeys (H.out.below HB.out)).mono ?_
      rintro e w1 ⟨rfl, hb1⟩
      clear hw0
      have HB1 := Lib.hid (below_step HB.out hb1)
      have HKC1 := Lib.hid (HKC.out.step hb1)
      have x0 : w1.cell? ⟨w.heap.size, 0, none⟩ = some (.int .i64 c.i0) := HKC1.out.cell 0
      have x1 : w1.cell? ⟨w.heap.size, 1, none⟩ = some (.int .i64 c.i1) := HKC1.out.cell 1
      have x2 : w1.cell? ⟨w.heap.size, 2, none⟩ = some (.slice A c.gs.length cg) := HKC1.out.cell 2
      have x3 : w1.cell? ⟨w.heap.size, 3, none⟩ = some (.slice A' c.outs.length co) := HKC1.out.cell 3
      have Q0 : Hid (∀ W, Below w1.heap.size w1 W → W.cell? ⟨w.heap.size, 0, none⟩ = some (.int .i64 c.i0)) := Lib.hid (belowCell x0)
      have Q1 : Hid (∀ W, Below w1.heap.size w1 W → W.cell? ⟨w.heap.size, 1, none⟩ = some (.int .i64 c.i1)) := Lib.hid (belowCell x1)
      have Q2 : Hid (∀ W, Below w1.heap.size w1 W → W.cell? ⟨w.heap.size, 2, none⟩ = some (.slice A c.gs.length cg)) := Lib.hid (belowCell x2)
      have Q3 : Hid (∀ W, Below w1.heap.size w1 W → W.cell? ⟨w.heap.size, 3, none⟩ = some (.slice A' c.outs.length co)) := Lib.hid (belowCell x3)
      go_wp2_with fail
      refine (c_spec_lbAll (HV.out.below HB1.out) (by omega)).mono ?_
      rintro e w' ⟨rfl, rfl⟩
      rw [HLA.out]
      go_wp2_with fail
      go_region_held3 (fun W => W.cell? ⟨w.heap.size, 0, none⟩ = some (.int .i64 c.i0) ∧ W.cell? ⟨w.heap.size, 1, none⟩ = some (.int .i64 c.i1) ∧ W.cell? ⟨w.heap.size, 2, none⟩ = some (.slice A c.gs.length cg) ∧ W.cell? ⟨w.heap.size, 3, none⟩ = some (.slice A' c.outs.length co))
        (first | exact KB.out | exact KA.out | exact ⟨Q0.out _ (Below.refl _ _).drew, Q1.out _ (Below.refl _ _).drew, Q2.out _ (Below.refl _ _).drew, Q3.out _ (Below.refl _ _).drew⟩)
        (first
          | (go_at_call 101; refine (c_spec_gbZeros ((H.out.below HB1.out).below ((Below.refl _ _).drew)) HKV.out.1 HKV.out.2.1 HKV.out.2.2.1).mono ?_; rintro e w2 ⟨u, rfl, hu, hb2⟩; rw [HZE.out] at hu; have hbA := below_step ((Below.refl w1.heap.size w1).drew) hb2; have KA := Lib.hid (And.intro (Q0.out _ hbA) (And.intro (Q1.out _ hbA) (And.intro (Q2.out _ hbA) (Q3.out _ hbA)))); have HBA := Lib.hid hbA; replace hu := Lib.hid hu)
          | (go_at_call 94; refine (c_spec_ciPick hu.out.ints ((H.out.below HB1.out).below HBA.out).outs (by omega) (by omega) HOB.out).mono ?_; rintro e w3 ⟨u2, rfl, hu2, hb3⟩; obtain ⟨Ap, cp, rfl, -⟩ := hu2.ints; have hbB := below_step HBA.out hb3; have KB := Lib.hid (And.intro (Q0.out _ hbB) (And.intro (Q1.out _ hbB) (And.intro (Q2.out _ hbB) (Q3.out _ hbB)))); have HBB := Lib.hid hbB; replace hu2 := Lib.hid hu2))
      have HBF := Lib.hid (below_step HB1.out HBB.out)
      have hpl : (pickM zs c.outs).length = c.outs.length := pickM_length _ _
      have HPL := Lib.hid hpl
      obtain ⟨ps, hps⟩ : ∃ ps, pickM zs c.outs = ps := ⟨_, rfl⟩
      have HPE := Lib.hid hps
      rw [hps] at hu2 HPL hpl ⊢
      clear hps KA KB x0 x1 x2 x3 Q0 Q1 Q2 Q3
      have hpl2 : ps.length ≤ 40 := by omega
      clear hpl
      go_wp2
      clear hcond hcond2
      go_loop [38] (fun i => ∃ k : Nat, k ≤ ps.length ∧ i = .int .i64 k ∧ Hid (((c.outs.zip os).take k).all (fun p => (bitM (elt zs p.1) off p.2).isSome) = true)) (fun i => ps.length - (intOf i).toNat)
      case atStart => exact ⟨0, Nat.zero_le _, rfl, Lib.hid rfl⟩
      case round =>
        obtain ⟨k, hk2, rfl, HP⟩ := hrel
        by_cases hlt : k < ps.length
        · have hlt2 : k < c.outs.length := by have := HPL.out; omega
          obtain ⟨b1, o1, wv, e1, hbl1, hwv, -⟩ := (HRC.out.below HBF.out).int_at hlt2
          obtain ⟨b2, o2, ov', rfl, hbl2, hov, hc2⟩ := (HRO.out.below HBF.out).int_at (k := k) (by have := HL.out; omega)
          obtain ⟨gp, cp', ep, -, hgp, hcp⟩ := own_at hu2.out (by intro e; rw [e] at hlt; simp at hlt)
          injection ep with ep1 ep2 ep3
          subst ep1
          have hpk : ps[k]? = some (elt zs wv) := by
            rw [← HPE.out]
            unfold pickM
            rw [List.getElem?_map, hwv]; rfl
          have hc3 := hcp k _ hpk
          have hkl : (k : Int) < (os.length : Int) := by have := HL.out; omega
          have hzb := elt_bd (k := wv) HZB.out
          have HE := Lib.hid (bitM_or (o := ov') hzb HOFF.out)
          have hxor := bits_xor hzb.1 HKV.out.2.2.1.1 (by omega) (by have := HKV.out.2.2.1; omega)
          have HST := Lib.hid (fun hb => true_step (off := off) hwv hov HP.out hb)
          have HNO := Lib.hid (fun hb => true_no (zs := zs) (off := off) hwv hov hb)
          clear hwv hov hpk hcp e1 ep2 ep3
          generalize elt zs wv = z at *
          by_cases h1 : ov' = z
          · have HTF := Lib.hid (HST.out (by rw [HE.out]; simp [h1]))
            clear HNO HST HE hxor
            subst h1
            go_wp2
            go_round
            case rel => exact ⟨k + 1, by omega, by go_num, HTF⟩
            case measure => simp [intOf]; omega
          · by_cases h2 : ov' = xorI z off
            · have HTF := Lib.hid (HST.out (by rw [HE.out]; simp [h2]))
              clear HNO HST HE
              subst h2
              go_wp2
              go_round
              case rel => exact ⟨k + 1, by omega, by go_num, HTF⟩
              case measure => simp [intOf]; omega
            · have HTF := Lib.hid (HNO.out (by rw [HE.out]; simp [h1, h2]))
              have n1 : (ov' != z) = true := by simp [h1]
              have n2 : (ov' != xorI z off) = true := by simp [h2]
              have n3 : (ov' == z) = false := by simp [h1]
              have n4 : (ov' == xorI z off) = false := by simp [h2]
              clear HNO HST HE
              go_wp2
              go_ret2
              exact ⟨by rw [HM.out, HTF.out]; rfl, HBF.out⟩
        · obtain rfl : k = ps.length := by omega
          have HT := Lib.hid (true_all HL.out (by have := HP.out; rw [HPL.out] at this; exact this))
          go_wp2
          go_ret2
          exact ⟨by rw [HM.out, HT.out]; rfl, HBF.out⟩
end Go.Proofs.YtejeppjmlgfiaaaGreat

/- What a run of a garbled circuit that came to something gives: contracts of all calls of the law. Conditions: the lists are short. -/
namespace Go.Proofs.YtejeppjmlgfiaaaGreat
open Go.RowKit
set_option linter.unusedVariables false

/-- The labels of the outs of a run are true ones. -/
theorem run_true {c : Cir} {key : Int} {a b : List Int} (hq : askedB c a b = true) (hk : inB key 0 1000000000 = true) : trueM c key (offM key) (outsM openM gbZ gbR c key a b) = some true := by
  have hkey : keyB c key (offM key) = true := by unfold keyB; rw [(askedB_of hq).1, hk, offB_off]; rfl
  have ht := gb_tab_ok (key := key) (askedB_of hq).1 (off_lab key)
  have hbd := run_bd (F := openM) (Z := gbZ) (R := gbR) (key := key) ht hq openM_ok
  have hlen : (outsM openM gbZ gbR c key a b).length = c.outs.length := by unfold outsM; rw [pickM_length]
  unfold trueM
  rw [hkey, allB_of hbd, decide_eq_true hlen]
  simp only [Bool.and_self, if_true]
  congr 1
  unfold trueB
  rw [List.all_eq_true]
  intro p hp
  obtain ⟨i, hi⟩ := List.getElem?_of_mem hp
  rw [List.getElem?_zip_eq_some] at hi
  obtain ⟨v, l, z, hv, hl, hz, h0, h1, hv01, hzb, hlz⟩ := run_labels (key := key) gbS hq hi.1
  have e1 : p.2 = l := by have := hi.2; rw [hl] at this; injection this with this; exact this.symm
  have e2 : elt (zrM (gbZ (offM key)) (gbR (offM key)) key (offM key) c.ins.toNat c.gs).zs p.1 = z := by
    unfold elt
    rw [List.getD_eq_getElem?_getD, hz]; rfl
  rw [e1, e2, bitM_or hzb (offB_off key), hlz]
  rcases hv01 with e | e <;> rw [e]
  · rw [if_neg (by decide)]; simp
  · rw [if_pos rfl]; simp
/-- What the law asks of a run that came to something. -/
structure HgP (c : Cir) (key : Int) (a b r : List Int) (P : HvD) : Prop where
  hr : r.length = c.outs.length
  ho : P.outs.length = c.outs.length
  hol : c.outs.length ≤ 40
  hil : P.inp.length ≤ 40
  hts : P.t.sz ≤ 2000
  c0 : clearM c a b = some r
  c7 : ∀ {W : World}, Calls Tryz.prog 19 #[.int .i64 key] W fun e w' => e = .returned (.tuple #[.int .i64 P.r0, .bool true]) ∧ Below W.heap.size W w'
  c2 : ∀ {W : World} {A A' : Option Addr} {k k' : Nat}, CirIn W (.slice A c.gs.length k) (.slice A' c.outs.length k') c →
        Calls Tryz.prog 27 #[.agg #[.int .i64 c.i0, .int .i64 c.i1, .slice A c.gs.length k, .slice A' c.outs.length k'], .int .i64 key, .int .i64 P.r0] W (YesG W P.t)
  c3 : ∀ {W : World} {A A' Aa Ab : Option Addr} {k k' ka kb : Nat}, CirIn W (.slice A c.gs.length k) (.slice A' c.outs.length k') c → Ints W (.slice Aa a.length ka) a → Ints W (.slice Ab b.length kb) b →
        Calls Tryz.prog 20 #[.agg #[.int .i64 c.i0, .int .i64 c.i1, .slice A c.gs.length k, .slice A' c.outs.length k'], .int .i64 key, .int .i64 P.r0, .slice Aa a.length ka, .slice Ab b.length kb] W (YesI W P.inp)
  c4 : ∀ {W : World} {A A' : Option Addr} {k k' : Nat} {rv nv cv u : Value}, CirIn W (.slice A c.gs.length k) (.slice A' c.outs.length k') c → GbIn W rv nv cv P.t → Ints W u P.inp →
        Calls Tryz.prog 28 #[.agg #[.int .i64 c.i0, .int .i64 c.i1, .slice A c.gs.length k, .slice A' c.outs.length k'], .agg #[rv, nv, cv], u] W (YesI W P.outs)
  c5 : ∀ {W : World} {A A' : Option Addr} {k k' : Nat} {u : Value}, CirIn W (.slice A c.gs.length k) (.slice A' c.outs.length k') c → Ints W u P.outs →
        Calls Tryz.prog 29 #[.agg #[.int .i64 c.i0, .int .i64 c.i1, .slice A c.gs.length k, .slice A' c.outs.length k'], .int .i64 key, .int .i64 P.r0, u] W fun e w' => e = .returned (.tuple #[.bool true, .bool true]) ∧ Below W.heap.size W w'
  c6 : ∀ {W : World} {A A' : Option Addr} {k k' : Nat} {rv nv cv u : Value}, CirIn W (.slice A c.gs.length k) (.slice A' c.outs.length k') c → GbIn W rv nv cv P.t → Ints W u P.outs →
        Calls Tryz.prog 30 #[.agg #[.int .i64 c.i0, .int .i64 c.i1, .slice A c.gs.length k, .slice A' c.outs.length k'], .agg #[rv, nv, cv], u] W (YesI W r)
theorem hg_pack {c : Cir} {key : Int} {a b r : List Int} (hR : runM openM gbZ gbR c key a b = some r) (hla : a.length ≤ 1048576) (hlb : b.length ≤ 1048576) : ∃ P : HvD, HgP c key a b r P := by
  have hcl := run_clear gbS hR
  obtain ⟨hq, hkey⟩ := run_some hR
  have hz := run_zeros (Z := gbZ) (R := gbR) hq hkey
  have ht := gb_tab_ok (key := key) (askedB_of hq).1 (off_lab key)
  have hin := run_in hq hkey
  have hev := run_ev (F := openM) (Z := gbZ) (R := gbR) (key := key) hq ht
  have hde := run_dec (F := openM) (Z := gbZ) (R := gbR) (key := key) hq ht openM_ok
  have htr := run_true hq hkey
  have hil := run_inl (key := key) hq
  have htz := tab_sz (askedB_of hq).1 ht (by omega)
  have hcb := cirB_bd (askedB_of hq).1
  have hrc : pickM (valsM (a ++ b) c.gs) c.outs = r := by have := hcl; unfold clearM at this; rw [if_pos hq] at this; injection this
  have hrr : xorsM (coloursM (outsM openM gbZ gbR c key a b)) (tabM (gbZ (offM key)) (gbR (offM key)) key (offM key) c).cols = r := by have := hR; unfold runM at this; rw [hq, hkey] at this; simpa using this
  have hinl : (lbInM key (offM key) (a ++ b)).length ≤ 40 := by unfold Cir.ins at hil; omega
  have holn : (outsM openM gbZ gbR c key a b).length = c.outs.length := by unfold outsM; rw [pickM_length]
  rw [hrr] at hde
  refine ⟨⟨(zrM (gbZ (offM key)) (gbR (offM key)) key (offM key) c.ins.toNat c.gs).zs, outsM openM gbZ gbR c key a b, lbInM key (offM key) (a ++ b), tabM (gbZ (offM key)) (gbR (offM key)) key (offM key) c, offM key⟩,
    by rw [← hrc, pickM_length], holn, hcb.2.2.2.2.2, hinl, htz, hcl, fun {W} => (c_impl_OffsetFrom (w := W)).mono fun e w' ⟨h1, h2⟩ => ⟨by rw [h1, show offsetM key = some (offM key) by unfold offsetM; rw [hkey]; rfl]; rfl, h2⟩,
    fun h1 => ?_, fun h1 h2 h3 => ?_, fun h1 h2 h3 => ?_, fun h1 h2 => ?_, fun h1 h2 h3 => ?_⟩
  · have := c_impl_GarbleCircuit (key := key) (off := offM key) h1; rw [hz.2] at this; exact this.mono fun e w' h => h.toYes
  · have := c_impl_InputLabels (key := key) (r := offM key) h1 h2 h3 hla hlb; rw [hin] at this; exact this.mono fun e w' h => h.toYes
  · have := c_impl_EvalGarbled h1 h2 (Nat.le_trans htz (by omega)) h3 (Nat.le_trans hinl (by omega)); rw [hev] at this; exact this.mono fun e w' h => h.toYes
  · have := c_impl_TrueLabels (key := key) (off := offM key) h1 h2 (by rw [holn]; omega); rw [htr] at this; exact this
  · have := c_impl_DecodeOuts h1 h2 (Nat.le_trans htz (by omega)) h3 (by rw [holn]; omega); rw [hde] at this; exact this.mono fun e w' h => h.toYes
end Go.Proofs.YtejeppjmlgfiaaaGreat
