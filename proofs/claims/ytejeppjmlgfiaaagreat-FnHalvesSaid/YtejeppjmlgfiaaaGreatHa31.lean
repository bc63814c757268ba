/- Garbled and halved circuits compute the circuit's values: the label of each wire is its zero label, shifted by the offset where the value is one. Plain law. -/
import Derived.Test.YtejeppjmlgfiaaaGreatHa29
import Derived.Test.YtejeppjmlgfiaaaGreatHa30
namespace Go.Proofs.YtejeppjmlgfiaaaGreat
open Go.RowKit
set_option linter.unusedVariables false

theorem xorI_ext {a b c d : Int} (h : a.toNat ^^^ b.toNat = c.toNat ^^^ d.toNat) : xorI a b = xorI c d := by unfold xorI; rw [h]
theorem xor_colour {off x u : Int} (hr : 0 ≤ off ∧ off ≤ 65535 ∧ off % 2 = 1) (hx : 0 ≤ x) (hu : u = 0 ∨ u = 1) : xorI x (off * u) % 2 = xorI (x % 2) u := by
  have h := xorI_mod2 hx (off_bit ⟨hr.1, hr.2.1⟩ hu).1
  rw [h]
  rcases hu with rfl | rfl <;> rcases bit2 x with e | e <;> rw [e]
  · rw [show xorI 0 0 = 0 by decide]; omega
  · rw [show xorI 1 0 = 1 by decide]; omega
  · rw [show xorI 0 1 = 1 by decide]; omega
  · rw [show xorI 1 1 = 0 by decide]; omega
theorem xor_again {a b : Int} (ha : a = 0 ∨ a = 1) (hb : b = 0 ∨ b = 1) : xorI a (xorI a b) = b := by
  rcases ha with rfl | rfl <;> rcases hb with rfl | rfl <;> decide
/-- What a gate GtAnd does to labels. -/
def AndOk (off : Int) (F : Int → Int → Int → List Int → Int) (Z : Int → Int → Int → Int) (R : Int → Int → Int → List Int) : Prop :=
  ∀ w x y u v, (0 ≤ x ∧ x ≤ 65535) → (0 ≤ y ∧ y ≤ 65535) → (u = 0 ∨ u = 1) → (v = 0 ∨ v = 1) → F w (xorI x (off * u)) (xorI y (off * v)) (R w x y) = xorI (Z w x y) (off * (u * v))
theorem gb_and {off : Int} (hr : 0 ≤ off ∧ off ≤ 65535 ∧ off % 2 = 1) : AndOk off openM (gbZ off) (gbR off) := by
  intro w x y u v hx hy hu hv
  have ex := xor_colour hr hx.1 hu
  have ey := xor_colour hr hy.1 hv
  have hp := xor_bit (bit2 x) hu
  have hq := xor_bit (bit2 y) hv
  have gu := xor_again (bit2 x) hu
  have gv := xor_again (bit2 y) hv
  unfold openM
  rw [ex, ey]
  generalize xorI (x % 2) u = p at *
  generalize xorI (y % 2) v = q at *
  have hown : digM [w, 14, xorI x (off * u), xorI y (off * v)] = gbOwnM off w x y p q := by unfold gbOwnM; rw [gu, gv]
  rw [hown]
  have hZ := gbZ_bd ⟨hr.1, hr.2.1⟩ w x y
  have huv := off_bit ⟨hr.1, hr.2.1⟩ (mul_bit hu hv)
  have hz := xorI_bd hZ.1 huv.1 hZ.2 huv.2
  have row : ∀ p q, xorI (x % 2) p = u → xorI (y % 2) q = v → xorI (gbOwnM off w x y p q) (gbRow off w x y p q) = xorI (gbZ off w x y) (off * (u * v)) := by
    intro p q e1 e2
    unfold gbRow
    rw [e1, e2, xorI_left hz.1]
  rcases hp with rfl | rfl <;> rcases hq with rfl | rfl
  · rw [if_neg (by decide)]
    unfold gbZ
    rw [gu, gv, xorI_back (gbOwnM_bd off w x y 0 0).1]
  · rw [if_pos (by decide)]; exact row 0 1 gu gv
  · rw [if_pos (by decide)]; exact row 1 0 gu gv
  · rw [if_pos (by decide)]; exact row 1 1 gu gv
set_option maxHeartbeats 1000000 in
theorem hg_and {off : Int} (hr : 0 ≤ off ∧ off ≤ 65535 ∧ off % 2 = 1) : AndOk off joinM (hgZ off) (hgR off) := by
  intro w x y u v hx hy hu hv
  have ex := xor_colour hr hx.1 hu
  have ey := xor_colour hr hy.1 hv
  unfold joinM hgZ
  rw [ex, ey]
  rw [show elt (hgR off w x y) 0 = hgA off w x y from rfl, show elt (hgR off w x y) 1 = hgB off w x y from rfl]
  unfold hgA hgB
  have z00 : xorI 0 0 = 0 := by decide
  have z01 : xorI 0 1 = 1 := by decide
  have z10 : xorI 1 0 = 1 := by decide
  have z11 : xorI 1 1 = 0 := by decide
  have zx := xorI_zero hx.1
  have zy := xorI_zero hy.1
  rcases hu with rfl | rfl <;> rcases hv with rfl | rfl <;> rcases bit2 x with e | e <;> rcases bit2 y with e' | e' <;> rw [e, e']
  all_goals
    simp only [Int.mul_zero, Int.mul_one, z00, z01, z10, z11, zx, zy]
    refine xorI_ext ?_
    simp only [xorI_toNat, Int.toNat_zero]
    generalize (digM [w, 15, x, 0]).toNat = h0
    generalize (digM [w, 15, xorI x off, 0]).toNat = h1
    generalize (digM [w, 15, y, 1]).toNat = h2
    generalize (digM [w, 15, xorI y off, 1]).toNat = h3
    generalize x.toNat = X
    generalize off.toNat = O
    apply Nat.eq_of_testBit_eq
    intro i
    simp only [Nat.testBit_xor, Nat.zero_testBit]
    generalize h0.testBit i = b0
    generalize h1.testBit i = b1
    generalize h2.testBit i = b2
    generalize h3.testBit i = b3
    generalize X.testBit i = b4
    generalize O.testBit i = b5
    revert b0 b1 b2 b3 b4 b5
    decide

/-- The values of all wires. -/
def vStep (l : List Int) (g : Gt) : List Int :=
  l ++ [if g.k = 0 then xorI (elt l g.a) (elt l g.b) else if g.k = 1 then elt l g.a * elt l g.b else if g.k = 2 then 1 - elt l g.a else 1]
def valsM (inp : List Int) (gs : List Gt) : List Int := gs.foldl vStep inp
theorem vals_snoc {inp : List Int} {gs : List Gt} {k : Nat} {g : Gt} (h : gs[k]? = some g) : valsM inp (gs.take (k + 1)) = vStep (valsM inp (gs.take k)) g := by
  rw [take_snoc h]; simp [valsM]
theorem vals_len (inp : List Int) : ∀ gs : List Gt, (valsM inp gs).length = inp.length + gs.length := by
  have key : ∀ (gs : List Gt) (l : List Int), (gs.foldl vStep l).length = l.length + gs.length := by
    intro gs
    induction gs with
    | nil => intro l; rfl
    | cons g gs ih => intro l; rw [List.foldl_cons, ih]; simp [vStep]; omega
  exact fun gs => key gs inp
theorem elt_bit {l : List Int} (h : ∀ x ∈ l, x = 0 ∨ x = 1) (k : Int) : elt l k = 0 ∨ elt l k = 1 := by
  unfold elt
  by_cases hk : k.toNat < l.length
  · have : l.getD k.toNat 0 = l[k.toNat] := by simp [List.getD, List.getElem?_eq_getElem hk]
    rw [this]; exact h _ (List.getElem_mem hk)
  · left; simp [List.getD, List.getElem?_eq_none (Nat.le_of_not_lt hk)]
theorem vals_bit {inp : List Int} (h : ∀ x ∈ inp, x = 0 ∨ x = 1) : ∀ gs : List Gt, ∀ x ∈ valsM inp gs, x = 0 ∨ x = 1 := by
  have key : ∀ (gs : List Gt) (l : List Int), (∀ x ∈ l, x = 0 ∨ x = 1) → ∀ x ∈ gs.foldl vStep l, x = 0 ∨ x = 1 := by
    intro gs
    induction gs with
    | nil => intro l hl; exact hl
    | cons g gs ih =>
      intro l hl
      refine ih _ fun x hx => ?_
      have ha := elt_bit hl g.a
      have hb := elt_bit hl g.b
      unfold vStep at hx
      rcases List.mem_append.1 hx with h | h
      · exact hl x h
      · simp only [List.mem_singleton] at h
        subst h
        by_cases h0 : g.k = 0
        · rw [if_pos h0]; exact xor_bit ha hb
        · rw [if_neg h0]
          by_cases h1 : g.k = 1
          · rw [if_pos h1]; exact mul_bit ha hb
          · rw [if_neg h1]
            by_cases h2 : g.k = 2
            · rw [if_pos h2]; rcases ha with e | e <;> rw [e] <;> simp
            · rw [if_neg h2]; exact Or.inr rfl
  exact fun gs => key gs inp h
section
variable {F : Int → Int → Int → List Int → Int} {Z : Int → Int → Int → Int} {R : Int → Int → Int → List Int} {key off : Int} {n : Nat} {gs : List Gt} {k : Nat} {g : Gt}
theorem zr_ext2 : ∀ (gs : List Gt) (s : Zr), (∃ t, (gs.foldl (zStep Z R key off) s).rows = s.rows ++ t) ∧ (∃ t, (gs.foldl (zStep Z R key off) s).ones = s.ones ++ t)
  | [], s => ⟨⟨[], by simp⟩, ⟨[], by simp⟩⟩
  | g :: gs, s => by
    obtain ⟨⟨t, ht⟩, ⟨t2, ht2⟩⟩ := zr_ext2 gs (zStep Z R key off s g)
    rw [List.foldl_cons, ht, ht2]
    unfold zStep
    split
    · exact ⟨⟨_, rfl⟩, ⟨_, rfl⟩⟩
    · split
      · exact ⟨⟨_, rfl⟩, ⟨_, rfl⟩⟩
      · split
        · exact ⟨⟨_, rfl⟩, ⟨_, List.append_assoc _ _ _⟩⟩
        · exact ⟨⟨_, List.append_assoc _ _ _⟩, ⟨_, rfl⟩⟩
theorem zr_pref2 (Z : Int → Int → Int → Int) (R : Int → Int → Int → List Int) (key off : Int) (n : Nat) (gs : List Gt) (k : Nat) :
    (∃ t, (zrM Z R key off n gs).rows = (zrM Z R key off n (gs.take k)).rows ++ t) ∧ (∃ t, (zrM Z R key off n gs).ones = (zrM Z R key off n (gs.take k)).ones ++ t) := by
  have h := zr_ext2 (Z := Z) (R := R) (key := key) (off := off) (gs.drop k) (zrM Z R key off n (gs.take k))
  unfold zrM at h ⊢
  rwa [← List.foldl_append, List.take_append_drop] at h
theorem getD_len {α : Type} (l t : List α) (x d : α) (r : List α) (h : r = (l ++ [x]) ++ t) : r.getD l.length d = x := by
  subst h; simp [List.getD]
theorem elt_old {l : List Int} {x : Int} {j : Nat} (h : j < l.length) : elt (l ++ [x]) (j : Int) = elt l (j : Int) := elt_left (by omega) (by omega)
theorem xor_off {off a b u v : Int} (ho : 0 ≤ off ∧ off ≤ 65535) (hu : u = 0 ∨ u = 1) (hv : v = 0 ∨ v = 1) : xorI (xorI a (off * u)) (xorI b (off * v)) = xorI (xorI a b) (off * xorI u v) := by
  have z00 : xorI 0 0 = 0 := by decide
  have z01 : xorI 0 1 = 1 := by decide
  have z10 : xorI 1 0 = 1 := by decide
  have z11 : xorI 1 1 = 0 := by decide
  rcases hu with rfl | rfl <;> rcases hv with rfl | rfl
  all_goals
    simp only [Int.mul_zero, Int.mul_one, z00, z01, z10, z11]
    refine xorI_ext ?_
    simp only [xorI_toNat, Int.toNat_zero]
    generalize a.toNat = A
    generalize b.toNat = B
    generalize off.toNat = O
    apply Nat.eq_of_testBit_eq
    intro i
    simp only [Nat.testBit_xor, Nat.zero_testBit]
    generalize A.testBit i = b0
    generalize B.testBit i = b1
    generalize O.testBit i = b2
    revert b0 b1 b2
    decide
theorem not_off {off a u : Int} (hu : u = 0 ∨ u = 1) : xorI a (off * u) = xorI (xorI a off) (off * (1 - u)) := by
  rcases hu with rfl | rfl
  all_goals
    simp only [Int.mul_zero, Int.mul_one, Int.sub_zero, Int.sub_self]
    refine xorI_ext ?_
    simp only [xorI_toNat, Int.toNat_zero]
    generalize a.toNat = A
    generalize off.toNat = O
    apply Nat.eq_of_testBit_eq
    intro i
    simp only [Nat.testBit_xor, Nat.zero_testBit]
    generalize A.testBit i = b0
    generalize O.testBit i = b2
    revert b0 b2
    decide
/-- One gate. -/
structure Tied (off : Int) (L V Zs : List Int) : Prop where
  lenL : L.length = Zs.length
  lenV : V.length = Zs.length
  at_ : ∀ j : Nat, j < Zs.length → elt L (j : Int) = xorI (elt Zs (j : Int)) (off * elt V (j : Int))
theorem Tied.snoc {L V Zs : List Int} {l v z : Int} (h : Tied off L V Zs) (e : l = xorI z (off * v)) : Tied off (L ++ [l]) (V ++ [v]) (Zs ++ [z]) := by
  refine ⟨by simp [h.lenL], by simp [h.lenV], fun j hj => ?_⟩
  have h1 := h.lenL
  have h2 := h.lenV
  rw [List.length_append, List.length_singleton] at hj
  by_cases hjl : j < Zs.length
  · rw [elt_old (l := L) (by omega), elt_old (l := Zs) hjl, elt_old (l := V) (by omega)]; exact h.at_ j hjl
  · obtain rfl : j = Zs.length := by omega
    rw [elt_last, show ((Zs.length : Nat) : Int) = ((L.length : Nat) : Int) by omega, elt_last, show ((L.length : Nat) : Int) = ((V.length : Nat) : Int) by omega, elt_last]; exact e
theorem Tied.get {L V Zs : List Int} {a : Int} (h : Tied off L V Zs) (h0 : 0 ≤ a) (h1 : a < (Zs.length : Int)) : elt L a = xorI (elt Zs a) (off * elt V a) := by
  obtain ⟨j, rfl⟩ := Int.eq_ofNat_of_zero_le h0
  exact h.at_ j (by omega)
theorem garbled_run {m : Nat} {inp : List Int} (hA : AndOk off F Z R) (ho : 0 ≤ off ∧ off ≤ 65535 ∧ off % 2 = 1)
    (hF : ∀ w x y, 0 ≤ x ∧ x ≤ 65535 → 0 ≤ y ∧ y ≤ 65535 → 0 ≤ Z w x y ∧ Z w x y ≤ 65535)
    (hR : ∀ w x y, 0 ≤ x ∧ x ≤ 65535 → 0 ≤ y ∧ y ≤ 65535 → (R w x y).length = m ∧ ∀ z ∈ R w x y, 0 ≤ z ∧ z ≤ 65535)
    (hin : inp.length = n) (hbit : ∀ x ∈ inp, x = 0 ∨ x = 1) (hg : gatesB gs (n : Int) = true) (T : Gb) (hTr : T.rows = (zrM Z R key off n gs).rows) (hTo : T.ones = (zrM Z R key off n gs).ones) :
    ∀ k, k ≤ gs.length → Tied off (wiresM F T (lbInM key off inp) (gs.take k)).1 (valsM inp (gs.take k)) (zrM Z R key off n (gs.take k)).zs ∧
      (wiresM F T (lbInM key off inp) (gs.take k)).2.1 = (zrM Z R key off n (gs.take k)).rows.length ∧ (wiresM F T (lbInM key off inp) (gs.take k)).2.2 = (zrM Z R key off n (gs.take k)).ones.length
  | 0, _ => by
    refine ⟨⟨?_, ?_, fun j hj => ?_⟩, rfl, rfl⟩
    · simp [wiresM, zrM, zIns_length, lbInM_length, hin]
    · simp [valsM, zrM, zIns_length, hin]
    · simp only [zrM, List.take_zero, List.foldl_nil, zIns_length] at hj
      have hji : j < inp.length := by omega
      simp only [wiresM, zrM, valsM, List.take_zero, List.foldl_nil]
      unfold elt lbInM zIns
      rw [Int.toNat_natCast]
      simp [List.getD, hji, hj]
  | k + 1, h => by
    obtain ⟨t0, r0, o0⟩ := garbled_run hA ho hF hR hin hbit hg T hTr hTo k (by omega)
    have hgk : gs[k]? = some gs[k] := List.getElem?_eq_getElem (by omega)
    have hz := zr_inv (F := Z) (R := R) (key := key) (off := off) (n := n) (gatesB_kinds _ _ hg) k (by omega)
    have hab := gate_ab (gatesB_at _ _ k _ hg hgk)
    have hzb := (zr_bd ⟨ho.1, ho.2.1⟩ hF hR key n (gs.take k)).1
    have hvb := vals_bit hbit (gs.take k)
    obtain ⟨⟨tr, htr⟩, ⟨to', hto⟩⟩ := zr_pref2 Z R key off n gs (k + 1)
    have hlen := hz.1
    rw [wires_snoc hgk, vals_snoc hgk, zr_snoc hgk]
    rw [zr_snoc hgk] at htr hto
    generalize gs[k] = g at *
    generalize wiresM F T (lbInM key off inp) (gs.take k) = s at *
    generalize valsM inp (gs.take k) = V at *
    generalize zrM Z R key off n (gs.take k) = S at *
    obtain ⟨L, na, no⟩ := s
    simp only at t0 r0 o0
    have eL := t0.lenL
    unfold wireStep vStep zStep
    unfold zStep at htr hto
    have hva := elt_bit hvb g.a
    have hvb2 := elt_bit hvb g.b
    by_cases h0 : g.k = 0
    · have h1 := hab.2.1 (Or.inl h0)
      rw [if_pos h0, if_pos h0, if_pos h0]
      refine ⟨t0.snoc ?_, r0, o0⟩
      rw [t0.get h1.1 (by omega), t0.get h1.2.2.1 (by omega)]
      exact xor_off ⟨ho.1, ho.2.1⟩ hva hvb2
    · rw [if_neg h0] at htr hto
      rw [if_neg h0, if_neg h0, if_neg h0]
      by_cases h2 : g.k = 2
      · have h1 := hab.2.2 h2
        rw [if_pos h2, if_pos h2, if_neg (by omega), if_pos h2]
        refine ⟨t0.snoc ?_, r0, o0⟩
        show elt L g.a = _
        rw [t0.get h1.1 (by omega)]
        exact not_off hva
      · rw [if_neg h2] at htr hto
        rw [if_neg h2, if_neg h2]
        by_cases h3 : g.k = 3
        · rw [if_pos h3] at htr hto
          rw [if_pos h3, if_pos h3, if_neg (by omega), if_neg h2]
          refine ⟨t0.snoc ?_, r0, by simp [o0]⟩
          show T.ones.getD no 0 = _
          rw [hTo, o0, getD_len _ _ _ _ _ hto, Int.mul_one]
        · have h1 : g.k = 1 := by omega
          have h4 := hab.2.1 (Or.inr h1)
          rw [if_neg h3] at htr hto
          rw [if_neg h3, if_neg h2, if_neg h3, if_pos h1]
          refine ⟨t0.snoc ?_, by simp [r0], o0⟩
          show F (L.length : Int) (elt L g.a) (elt L g.b) (T.rows.getD na []) = _
          rw [hTr, r0, getD_len _ _ _ _ _ htr, eL, t0.get h4.1 (by omega), t0.get h4.2.2.1 (by omega)]
          exact hA _ _ _ _ _ (elt_bd hzb) (elt_bd hzb) hva hvb2
end
theorem decode_run {off : Int} {L V Zs : List Int} (t : Tied off L V Zs) (ho : 0 ≤ off ∧ off ≤ 65535 ∧ off % 2 = 1) (hz : ∀ x ∈ Zs, 0 ≤ x ∧ x ≤ 65535) (hv : ∀ x ∈ V, x = 0 ∨ x = 1) :
    ∀ outs : List Int, (∀ k ∈ outs, 0 ≤ k ∧ k < (Zs.length : Int)) → xorsM (coloursM (pickM L outs)) (coloursM (pickM Zs outs)) = pickM V outs
  | [], _ => rfl
  | k :: outs, h => by
    have h0 := h k (by simp)
    have ih := decode_run t ho hz hv outs fun x hx => h x (by simp [hx])
    have e1 : xorI (elt L k % 2) (elt Zs k % 2) = elt V k := by
      have hzb := elt_bd (k := k) hz
      rw [t.get h0.1 h0.2, xor_colour ho hzb.1 (elt_bit hv k)]
      rcases bit2 (elt Zs k) with e | e <;> rcases elt_bit hv k with e' | e' <;> rw [e, e'] <;> decide
    have e2 : xorsM (coloursM (pickM L (k :: outs))) (coloursM (pickM Zs (k :: outs))) = xorI (elt L k % 2) (elt Zs k % 2) :: xorsM (coloursM (pickM L outs)) (coloursM (pickM Zs outs)) := rfl
    rw [e2, e1, ih]
    rfl
end Go.Proofs.YtejeppjmlgfiaaaGreat
