/- The zero labels of all wires as plain functions: the labels, the rows of gates GtAnd and the labels of gates GtOne. Plain definitions and lemmas. -/
import Derived.Test.YtejeppjmlgfiaaaGreatWir
import Derived.Test.YtejeppjmlgfiaaaGreatLabX
namespace Go.Proofs.YtejeppjmlgfiaaaGreat
open Go.RowKit
set_option linter.unusedVariables false

theorem elt_left {l t : List Int} {k : Int} (h : 0 ≤ k) (h2 : k < (l.length : Int)) : elt (l ++ t) k = elt l k := by
  unfold elt
  have : k.toNat < l.length := by omega
  simp [List.getD, List.getElem?_append_left this]
theorem elt_last (l : List Int) (x : Int) : elt (l ++ [x]) (l.length : Int) = x := by
  unfold elt
  simp [List.getD]
/-- The zero label and the rows of a gate GtAnd, garbled. -/
def gbOwnM (off w x y p q : Int) : Int := digM [w, 14, xorI x (off * xorI (x % 2) p), xorI y (off * xorI (y % 2) q)]
def gbZ (off w x y : Int) : Int := xorI (gbOwnM off w x y 0 0) (off * (xorI (x % 2) 0 * xorI (y % 2) 0))
def gbRow (off w x y p q : Int) : Int := xorI (gbOwnM off w x y p q) (xorI (gbZ off w x y) (off * (xorI (x % 2) p * xorI (y % 2) q)))
def gbR (off w x y : Int) : List Int := [gbRow off w x y 0 1, gbRow off w x y 1 0, gbRow off w x y 1 1]
/-- The same of a halved one. -/
def hgA (off w x y : Int) : Int := xorI (xorI (digM [w, 15, x, 0]) (digM [w, 15, xorI x off, 0])) (off * (y % 2))
def hgB (off w x y : Int) : Int := xorI (xorI (digM [w, 15, y, 1]) (digM [w, 15, xorI y off, 1])) x
def hgZ (off w x y : Int) : Int := xorI (xorI (xorI (digM [w, 15, x, 0]) (hgA off w x y * (x % 2))) (digM [w, 15, y, 1])) (xorI (hgB off w x y) x * (y % 2))
def hgR (off w x y : Int) : List Int := [hgA off w x y, hgB off w x y]
theorem bit2 (x : Int) : x % 2 = 0 ∨ x % 2 = 1 := by omega
theorem xor_bit {a b : Int} (ha : a = 0 ∨ a = 1) (hb : b = 0 ∨ b = 1) : xorI a b = 0 ∨ xorI a b = 1 := by
  rcases ha with rfl | rfl <;> rcases hb with rfl | rfl <;> decide
theorem mul_bit {a b : Int} (ha : a = 0 ∨ a = 1) (hb : b = 0 ∨ b = 1) : a * b = 0 ∨ a * b = 1 := by
  rcases ha with rfl | rfl <;> rcases hb with rfl | rfl <;> decide
theorem off_bit {r b : Int} (hr : 0 ≤ r ∧ r ≤ 65535) (hb : b = 0 ∨ b = 1) : 0 ≤ r * b ∧ r * b ≤ 65535 := by
  rcases hb with rfl | rfl <;> omega
theorem gbOwnM_bd (off w x y p q : Int) : 0 ≤ gbOwnM off w x y p q ∧ gbOwnM off w x y p q ≤ 65535 := digM_bd _
theorem gbZ_bd {off : Int} (hr : 0 ≤ off ∧ off ≤ 65535) (w x y : Int) : 0 ≤ gbZ off w x y ∧ gbZ off w x y ≤ 65535 := by
  have h1 := gbOwnM_bd off w x y 0 0
  have h2 := off_bit hr (mul_bit (xor_bit (bit2 x) (Or.inl rfl)) (xor_bit (bit2 y) (Or.inl rfl)))
  exact xorI_bd h1.1 h2.1 h1.2 h2.2
theorem gbRow_bd {off : Int} (hr : 0 ≤ off ∧ off ≤ 65535) (w x y : Int) {p q : Int} (hp : p = 0 ∨ p = 1) (hq : q = 0 ∨ q = 1) : 0 ≤ gbRow off w x y p q ∧ gbRow off w x y p q ≤ 65535 := by
  have h1 := gbOwnM_bd off w x y p q
  have h2 := off_bit hr (mul_bit (xor_bit (bit2 x) hp) (xor_bit (bit2 y) hq))
  have h3 := gbZ_bd hr w x y
  have h4 := xorI_bd h3.1 h2.1 h3.2 h2.2
  exact xorI_bd h1.1 h4.1 h1.2 h4.2
theorem gbR_bd {off : Int} (hr : 0 ≤ off ∧ off ≤ 65535) (w x y : Int) : (gbR off w x y).length = 3 ∧ ∀ z ∈ gbR off w x y, 0 ≤ z ∧ z ≤ 65535 := by
  refine ⟨rfl, fun z hz => ?_⟩
  simp only [gbR, List.mem_cons, List.not_mem_nil, or_false] at hz
  rcases hz with rfl | rfl | rfl
  · exact gbRow_bd hr w x y (Or.inl rfl) (Or.inr rfl)
  · exact gbRow_bd hr w x y (Or.inr rfl) (Or.inl rfl)
  · exact gbRow_bd hr w x y (Or.inr rfl) (Or.inr rfl)
theorem hgA_bd {off : Int} (hr : 0 ≤ off ∧ off ≤ 65535) (w x y : Int) : 0 ≤ hgA off w x y ∧ hgA off w x y ≤ 65535 := by
  have h1 := digM_bd [w, 15, x, 0]
  have h2 := digM_bd [w, 15, xorI x off, 0]
  have h3 := off_bit hr (bit2 y)
  have h4 := xorI_bd h1.1 h2.1 h1.2 h2.2
  exact xorI_bd h4.1 h3.1 h4.2 h3.2
theorem hgB_bd {x : Int} (hx : 0 ≤ x ∧ x ≤ 65535) (off w y : Int) : 0 ≤ hgB off w x y ∧ hgB off w x y ≤ 65535 := by
  have h1 := digM_bd [w, 15, y, 1]
  have h2 := digM_bd [w, 15, xorI y off, 1]
  have h4 := xorI_bd h1.1 h2.1 h1.2 h2.2
  exact xorI_bd h4.1 hx.1 h4.2 hx.2
theorem hgZ_bd {off x : Int} (hr : 0 ≤ off ∧ off ≤ 65535) (hx : 0 ≤ x ∧ x ≤ 65535) (w y : Int) : 0 ≤ hgZ off w x y ∧ hgZ off w x y ≤ 65535 := by
  have h1 := digM_bd [w, 15, x, 0]
  have h2 := off_bit (hgA_bd hr w x y) (bit2 x)
  have h3 := digM_bd [w, 15, y, 1]
  have h4 := hgB_bd hx off w y
  have h5 := off_bit (xorI_bd h4.1 hx.1 h4.2 hx.2) (bit2 y)
  have h6 := xorI_bd h1.1 h2.1 h1.2 h2.2
  have h7 := xorI_bd h6.1 h3.1 h6.2 h3.2
  exact xorI_bd h7.1 h5.1 h7.2 h5.2
theorem hgR_bd {off x : Int} (hr : 0 ≤ off ∧ off ≤ 65535) (hx : 0 ≤ x ∧ x ≤ 65535) (w y : Int) : (hgR off w x y).length = 2 ∧ ∀ z ∈ hgR off w x y, 0 ≤ z ∧ z ≤ 65535 := by
  refine ⟨rfl, fun z hz => ?_⟩
  simp only [hgR, List.mem_cons, List.not_mem_nil, or_false] at hz
  rcases hz with rfl | rfl
  · exact hgA_bd hr w x y
  · exact hgB_bd hx off w y

/-- One gate: the zero labels so far, the rows, the labels of gates GtOne. -/
structure Zr where
  zs : List Int
  rows : List (List Int)
  ones : List Int
def zStep (F : Int → Int → Int → Int) (R : Int → Int → Int → List Int) (key off : Int) (s : Zr) (x : Gt) : Zr :=
  if x.k = 0 then ⟨s.zs ++ [xorI (elt s.zs x.a) (elt s.zs x.b)], s.rows, s.ones⟩
  else if x.k = 2 then ⟨s.zs ++ [xorI (elt s.zs x.a) off], s.rows, s.ones⟩
  else if x.k = 3 then ⟨s.zs ++ [digM [key, (s.zs.length : Int), 13, 0]], s.rows, s.ones ++ [xorI (digM [key, (s.zs.length : Int), 13, 0]) off]⟩
  else ⟨s.zs ++ [F (s.zs.length : Int) (elt s.zs x.a) (elt s.zs x.b)], s.rows ++ [R (s.zs.length : Int) (elt s.zs x.a) (elt s.zs x.b)], s.ones⟩
def zIns (key : Int) (n : Nat) : List Int := (List.range n).map fun (i : Nat) => digM [key, (i : Int), 13, 0]
def zrM (F : Int → Int → Int → Int) (R : Int → Int → Int → List Int) (key off : Int) (n : Nat) (gs : List Gt) : Zr := gs.foldl (zStep F R key off) ⟨zIns key n, [], []⟩
theorem zIns_length (key : Int) (n : Nat) : (zIns key n).length = n := by simp [zIns]
theorem zIns_snoc (key : Int) (n : Nat) : zIns key (n + 1) = zIns key n ++ [digM [key, (n : Int), 13, 0]] := by simp [zIns, List.range_succ]
theorem zIns_bd (key : Int) (n : Nat) : ∀ x ∈ zIns key n, 0 ≤ x ∧ x ≤ 65535 := by
  intro x hx; simp only [zIns, List.mem_map] at hx; obtain ⟨i, _, rfl⟩ := hx; exact digM_bd _
section
variable {F : Int → Int → Int → Int} {R : Int → Int → Int → List Int} {key off : Int} {n : Nat} {gs : List Gt} {k : Nat} {g : Gt}
theorem zr_snoc (h : gs[k]? = some g) : zrM F R key off n (gs.take (k + 1)) = zStep F R key off (zrM F R key off n (gs.take k)) g := by
  rw [take_snoc h]; simp [zrM]
theorem zr_inv (hk : kindsB gs) : ∀ k, k ≤ gs.length → ((zrM F R key off n (gs.take k)).zs.length = n + k ∧ ((zrM F R key off n (gs.take k)).rows.length : Int) = cnt 1 (gs.take k) ∧ ((zrM F R key off n (gs.take k)).ones.length : Int) = cnt 3 (gs.take k))
  | 0, _ => by simp [zrM, cnt, zIns_length]
  | k + 1, h => by
    obtain ⟨i1, i2, i3⟩ := zr_inv hk k (by omega)
    have hg : gs[k]? = some gs[k] := List.getElem?_eq_getElem (by omega)
    have hkk := hk gs[k] (List.mem_of_getElem? hg)
    rw [zr_snoc hg, cnt_take hg, cnt_take hg]
    generalize gs[k] = g at *
    generalize zrM F R key off n (gs.take k) = s at *
    unfold zStep
    by_cases h0 : g.k = 0
    · simp [h0, i1, i2, i3]; omega
    · by_cases h2 : g.k = 2
      · simp [h2, i1, i2, i3]; omega
      · by_cases h3 : g.k = 3
        · simp [h3, i1, i2, i3]; omega
        · have h1 : g.k = 1 := by omega
          simp [h1, i1, i2, i3]; omega
/-- All numbers are labels. -/
theorem zr_bd {m : Nat} (ho : 0 ≤ off ∧ off ≤ 65535)
    (hF : ∀ w x y, 0 ≤ x ∧ x ≤ 65535 → 0 ≤ y ∧ y ≤ 65535 → 0 ≤ F w x y ∧ F w x y ≤ 65535)
    (hR : ∀ w x y, 0 ≤ x ∧ x ≤ 65535 → 0 ≤ y ∧ y ≤ 65535 → (R w x y).length = m ∧ ∀ z ∈ R w x y, 0 ≤ z ∧ z ≤ 65535) (key : Int) (n : Nat) :
    ∀ gs : List Gt, (∀ x ∈ (zrM F R key off n gs).zs, 0 ≤ x ∧ x ≤ 65535) ∧ (∀ r ∈ (zrM F R key off n gs).rows, r.length = m ∧ ∀ x ∈ r, 0 ≤ x ∧ x ≤ 65535) ∧ (∀ x ∈ (zrM F R key off n gs).ones, 0 ≤ x ∧ x ≤ 65535) := by
  have key2 : ∀ (gs : List Gt) (s : Zr), ((∀ x ∈ s.zs, 0 ≤ x ∧ x ≤ 65535) ∧ (∀ r ∈ s.rows, r.length = m ∧ ∀ x ∈ r, 0 ≤ x ∧ x ≤ 65535) ∧ (∀ x ∈ s.ones, 0 ≤ x ∧ x ≤ 65535)) →
      ((∀ x ∈ (gs.foldl (zStep F R key off) s).zs, 0 ≤ x ∧ x ≤ 65535) ∧ (∀ r ∈ (gs.foldl (zStep F R key off) s).rows, r.length = m ∧ ∀ x ∈ r, 0 ≤ x ∧ x ≤ 65535) ∧ (∀ x ∈ (gs.foldl (zStep F R key off) s).ones, 0 ≤ x ∧ x ≤ 65535)) := by
    intro gs
    induction gs with
    | nil => intro s hs; exact hs
    | cons g gs ih =>
      intro s hs
      refine ih _ ?_
      obtain ⟨hz, hr, h1⟩ := hs
      have ha := elt_bd (k := g.a) hz
      have hb := elt_bd (k := g.b) hz
      have hd := digM_bd [key, (s.zs.length : Int), 13, 0]
      have snoc : ∀ (l : List Int) (v : Int), (∀ x ∈ l, 0 ≤ x ∧ x ≤ 65535) → (0 ≤ v ∧ v ≤ 65535) → ∀ x ∈ l ++ [v], 0 ≤ x ∧ x ≤ 65535 := by
        intro l v hl hv x hx
        rcases List.mem_append.1 hx with h | h
        · exact hl x h
        · simp only [List.mem_singleton] at h; subst h; exact hv
      unfold zStep
      by_cases h0 : g.k = 0
      · rw [if_pos h0]; exact ⟨snoc _ _ hz (xorI_bd ha.1 hb.1 ha.2 hb.2), hr, h1⟩
      · rw [if_neg h0]
        by_cases h2 : g.k = 2
        · rw [if_pos h2]; exact ⟨snoc _ _ hz (xorI_bd ha.1 ho.1 ha.2 ho.2), hr, h1⟩
        · rw [if_neg h2]
          by_cases h3 : g.k = 3
          · rw [if_pos h3]; exact ⟨snoc _ _ hz hd, hr, snoc _ _ h1 (xorI_bd hd.1 ho.1 hd.2 ho.2)⟩
          · rw [if_neg h3]
            refine ⟨snoc _ _ hz (hF _ _ _ ha hb), fun r hx => ?_, h1⟩
            rcases List.mem_append.1 hx with h | h
            · exact hr r h
            · simp only [List.mem_singleton] at h; subst h; exact hR _ _ _ ha hb
  exact fun gs => key2 gs _ ⟨zIns_bd key n, by simp, by simp⟩
theorem zr_grow (s : Zr) (g : Gt) : ∃ x, (zStep F R key off s g).zs = s.zs ++ [x] := by
  unfold zStep
  split
  · exact ⟨_, rfl⟩
  · split
    · exact ⟨_, rfl⟩
    · split
      · exact ⟨_, rfl⟩
      · exact ⟨_, rfl⟩
theorem zr_ext : ∀ (gs : List Gt) (s : Zr), ∃ t, (gs.foldl (zStep F R key off) s).zs = s.zs ++ t
  | [], s => ⟨[], by simp⟩
  | g :: gs, s => by
    obtain ⟨x, hx⟩ := zr_grow (F := F) (R := R) (key := key) (off := off) s g
    obtain ⟨t, ht⟩ := zr_ext gs (zStep F R key off s g)
    exact ⟨x :: t, by rw [List.foldl_cons, ht, hx]; simp⟩
theorem zr_pref (F : Int → Int → Int → Int) (R : Int → Int → Int → List Int) (key off : Int) (n : Nat) (gs : List Gt) (k : Nat) : ∃ t, (zrM F R key off n gs).zs = (zrM F R key off n (gs.take k)).zs ++ t := by
  have h := zr_ext (F := F) (R := R) (key := key) (off := off) (gs.drop k) (zrM F R key off n (gs.take k))
  unfold zrM at h ⊢
  rwa [← List.foldl_append, List.take_append_drop] at h
/-- The labels that a gate reads are final. -/
theorem zr_elt {a : Int} (h : 0 ≤ a) (h2 : a < ((zrM F R key off n (gs.take k)).zs.length : Int)) : elt (zrM F R key off n gs).zs a = elt (zrM F R key off n (gs.take k)).zs a := by
  obtain ⟨t, ht⟩ := zr_pref F R key off n gs k
  rw [ht, elt_left h h2]
/-- So is the label that it makes. -/
theorem zr_made {x : Int} (h : (zrM F R key off n (gs.take (k + 1))).zs = (zrM F R key off n (gs.take k)).zs ++ [x]) : elt (zrM F R key off n gs).zs ((zrM F R key off n (gs.take k)).zs.length : Int) = x := by
  rw [zr_elt (k := k + 1) (by omega) (by rw [h]; simp; omega), h, elt_last]
theorem zr_all : zrM F R key off n (gs.take gs.length) = zrM F R key off n gs := by rw [List.take_of_length_le (Nat.le_refl _)]
end
/-- The tables. -/
def tabM (F : Int → Int → Int → Int) (R : Int → Int → Int → List Int) (key off : Int) (c : Cir) : Gb :=
  ⟨(zrM F R key off c.ins.toNat c.gs).rows, (zrM F R key off c.ins.toNat c.gs).ones, coloursM (pickM (zrM F R key off c.ins.toNat c.gs).zs c.outs)⟩
theorem allB_of {l : List Int} {lo hi : Int} (h : ∀ x ∈ l, lo ≤ x ∧ x ≤ hi) : allB l lo hi = true := by
  unfold allB
  rw [List.all_eq_true]
  intro x hx
  have := h x hx
  simp [inB]; omega
theorem tab_ok {m : Nat} {F : Int → Int → Int → Int} {R : Int → Int → Int → List Int} {key off : Int} {c : Cir} (hc : cirB c = true) (ho : 0 ≤ off ∧ off ≤ 65535)
    (hF : ∀ w x y, 0 ≤ x ∧ x ≤ 65535 → 0 ≤ y ∧ y ≤ 65535 → 0 ≤ F w x y ∧ F w x y ≤ 65535)
    (hR : ∀ w x y, 0 ≤ x ∧ x ≤ 65535 → 0 ≤ y ∧ y ≤ 65535 → (R w x y).length = m ∧ ∀ z ∈ R w x y, 0 ≤ z ∧ z ≤ 65535) : tabB (m : Int) c (tabM F R key off c) = true := by
  obtain ⟨i1, i2, i3⟩ := zr_inv (F := F) (R := R) (key := key) (off := off) (n := c.ins.toNat) (cirB_kinds hc) c.gs.length (Nat.le_refl _)
  obtain ⟨b1, b2, b3⟩ := zr_bd ho hF hR key c.ins.toNat c.gs
  rw [zr_all] at i1 i2 i3
  rw [List.take_of_length_le (Nat.le_refl _)] at i2 i3
  unfold tabB tabM
  simp only [Bool.and_eq_true, decide_eq_true_eq]
  refine ⟨⟨⟨⟨⟨i2, ?_⟩, i3⟩, allB_of b3⟩, by rw [coloursM_length, pickM_length]⟩, allB_of (coloursM_bd _)⟩
  rw [List.all_eq_true]
  intro r hr
  have := b2 r hr
  unfold rowB
  simp only [Bool.and_eq_true, decide_eq_true_eq]
  exact ⟨by omega, allB_of this.2⟩
theorem gb_tab_ok {key off : Int} {c : Cir} (hc : cirB c = true) (ho : 0 ≤ off ∧ off ≤ 65535) : tabB 3 c (tabM (gbZ off) (gbR off) key off c) = true :=
  tab_ok (m := 3) hc ho (fun w x y _ _ => gbZ_bd ho w x y) (fun w x y _ _ => gbR_bd ho w x y)
theorem hg_tab_ok {key off : Int} {c : Cir} (hc : cirB c = true) (ho : 0 ≤ off ∧ off ≤ 65535) : tabB 2 c (tabM (hgZ off) (hgR off) key off c) = true :=
  tab_ok (m := 2) hc ho (fun w x y hx _ => hgZ_bd ho hx w y) (fun w x y hx _ => hgR_bd ho hx w y)
end Go.Proofs.YtejeppjmlgfiaaaGreat
