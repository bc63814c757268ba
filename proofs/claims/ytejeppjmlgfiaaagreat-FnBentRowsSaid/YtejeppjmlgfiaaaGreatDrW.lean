/- Contracts of the draws' cursor: each step gives some number of the right range, and changes nothing but the cursor's own block. Conditions: the bounds that each names. -/
import Derived.Test.YtejeppjmlgfiaaaGreatMem
import Derived.Test.YtejeppjmlgfiaaaGreatByt
import Derived.Laws.Bits64
import Derived.Laws.Bits64b
import Derived.Test.YtejeppjmlgfiaaaGreatCol
namespace Go.Proofs.YtejeppjmlgfiaaaGreat
open Go.RowKit
set_option linter.unusedVariables false

/-- The bytes that choices are drawn from, apart from block g. -/
def CodeIn (w : World) (cd : Value) (g : Nat) : Prop := ∃ (l : List Int) (A : Option Addr) (c : Nat), cd = .slice A l.length c ∧ l.length ≤ c ∧ c ≤ maxLen ∧ Rd w A (l.map (Value.int .u8)) ∧ (∀ x ∈ l, 0 ≤ x ∧ x ≤ 255) ∧ (0 < l.length → ∀ a, A = some a → a.block ≠ g)
/-- The cursor lies in block g; it has taken n steps at most. -/
def Cur (w : World) (g : Nat) (cd : Value) (n : Nat) : Prop := CodeIn w cd g ∧ ∃ a s : Int, 0 ≤ a ∧ a ≤ n ∧ 0 ≤ s ∧ s < 18446744073709551616 ∧ Blk w g 71 #[cd, .int .i64 a, .int .u64 s]
theorem CodeIn.grown {w w' : World} {cd : Value} {g : Nat} (h : CodeIn w cd g) (hg : w.grownBy w' (some g)) : CodeIn w' cd g := by
  obtain ⟨l, A, c, e, h1, h2, h3, h4, h5⟩ := h
  exact ⟨l, A, c, e, h1, h2, fun hp => h3.grown hg (fun a ha he => h5 (by simpa using hp) a ha (by injection he)) hp, h4, h5⟩
theorem Cur.mono {w : World} {g n m : Nat} {cd : Value} (h : Cur w g cd n) (hm : n ≤ m) : Cur w g cd m := by
  obtain ⟨h0, a, s, h1, h2, h3, h4, h5⟩ := h
  exact ⟨h0, a, s, h1, by omega, h3, h4, h5⟩
theorem Cur.lt {w : World} {g n : Nat} {cd : Value} (h : Cur w g cd n) : g < w.heap.size := by
  obtain ⟨h0, a, s, h1, h2, h3, h4, h5⟩ := h; exact h5.lt
/-- A step that lays new blocks only. -/
theorem Cur.below {w w' : World} {g n : Nat} {cd : Value} (h : Cur w g cd n) (hb : Below w.heap.size w w') : Cur w' g cd n := by
  obtain ⟨h0, a, s, h1, h2, h3, h4, h5⟩ := h
  refine ⟨?_, a, s, h1, h2, h3, h4, h5.step hb⟩
  obtain ⟨l, A, c, e, k1, k2, k3, k4, k5⟩ := h0
  exact ⟨l, A, c, e, k1, k2, k3.below hb, k4, k5⟩
/-- A new cursor. -/
theorem cur_new {w : World} {cd : Value} {l : List Int} (h : Byts w cd l) : Cur (w.alloc (.cells #[cd, .int .i64 0, .int .u64 0] 71)) w.heap.size cd 0 := by
  obtain ⟨⟨A, c, e, h1, h2, h3⟩, h4⟩ := h
  refine ⟨⟨l, A, c, e, h1, h2, h3.alloc _, h4, fun hp a ha => ?_⟩, 0, 0, by omega, by omega, by omega, by omega, Blk.new _ _ _⟩
  obtain ⟨b, o, rfl, hb, -⟩ := h3.at_ (by simpa using hp)
  injection ha with ha
  subst ha
  show b ≠ _
  omega
/-- Behind a new cursor and its draws. -/
theorem cur_end {w w' : World} {o : Obj} (h : (w.alloc o).grownBy w' (some w.heap.size)) : Below w.heap.size w w' :=
  ((Below.refl w.heap.size w).alloc (Nat.le_refl _) o).grown h (by simp) (fun k hk => by injection hk with hk; omega)
/-- What a draw does: some result, and only the cursor's block is changed. -/
def Drew (w : World) (g : Nat) (cd : Value) (n : Nat) (R : Value → Prop) (e : Ending) (w' : World) : Prop := ∃ v, e = .returned v ∧ R v ∧ Cur w' g cd n ∧ w.grownBy w' (some g)
def IntR (lo hi : Int) (v : Value) : Prop := ∃ r : Int, v = .int .i64 r ∧ lo ≤ r ∧ r ≤ hi
/-- A store in a block leaves the others. -/
theorem grown_set (w : World) (p : Addr) (u : Value) : w.grownBy (w.setCell p u) (some p.block) :=
  ⟨rfl, rfl, rfl, by simp, fun i hi hn => Below.heap_setCell w p u i (fun e => hn (by rw [e]))⟩
theorem cur_put {w : World} {g n : Nat} {cd : Value} {a a' s s' : Int} (hc : CodeIn w cd g) (hk : Blk w g 71 #[cd, .int .i64 a, .int .u64 s]) (h0 : 0 ≤ a') (h1 : a' ≤ n) (h2 : 0 ≤ s') (h3 : s' < 18446744073709551616) (p q : Nat) :
    Cur ((((w.drewN p).setCell ⟨g, 1, none⟩ (.int .i64 a')).setCell ⟨g, 2, none⟩ (.int .u64 s')).drewN q) g cd n ∧ w.grownBy ((((w.drewN p).setCell ⟨g, 1, none⟩ (.int .i64 a')).setCell ⟨g, 2, none⟩ (.int .u64 s')).drewN q) (some g) := by
  have e1 : w.grownBy ((w.drewN p).setCell ⟨g, 1, none⟩ (.int .i64 a')) (some g) := only_trans (only_drewN (only_refl w _) p) (grown_set _ ⟨g, 1, none⟩ _)
  have e2 := only_drewN (only_trans e1 (grown_set _ ⟨g, 2, none⟩ (.int .u64 s'))) q
  have b1 := (((hk.drewN p).set_ 1 (.int .i64 a')).set_ 2 (.int .u64 s')).drewN q
  exact ⟨⟨hc.grown e2, a', s', h0, h1, h2, h3, by simpa using b1⟩, e2⟩
theorem byte_of {x : Int} (h0 : 0 ≤ x) (h1 : x < 18446744073709551616) : 0 ≤ bits .and .u64 x 255 ∧ bits .and .u64 x 255 ≤ 255 := by
  obtain ⟨m, rfl⟩ := Int.eq_ofNat_of_zero_le h0
  have h := bits_and_u64_nat m 255 (by omega) (by omega)
  have h2 := Nat.and_le_right (n := m) (m := 255)
  rw [show ((255 : Int)) = ((255 : Nat) : Int) from rfl, h]
  omega
theorem u64_bd (x : Int) : 0 ≤ IntKind.u64.wrap x ∧ IntKind.u64.wrap x < 18446744073709551616 := by rw [IntKind.wrap_u64]; omega
set_option maxRecDepth 100000 in
set_option maxHeartbeats 1000000 in
theorem c_next {w : World} {g n : Nat} {cd : Value} (h : Cur w g cd n) (hn : n ≤ 1000000000000) :
    Calls Tryz.prog 124 #[.pointer (some ⟨g, 0, none⟩)] w (Drew w g cd (n + 1) (IntR 0 255)) := by
  have hlt := h.2
  obtain ⟨hc, a, s, ha0, ha1, hs0, hs1, hk⟩ := h
  have HC := Lib.hid hc
  obtain ⟨l, A, c, rfl, hlc, hcm, hrd, hlb, hne⟩ := hc
  unfold maxLen at hcm
  have HK := Lib.hid hk
  have x0 : w.cell? ⟨g, 0, none⟩ = some (.slice A l.length c) := hk.cell 0
  have x1 : w.cell? ⟨g, 1, none⟩ = some (.int .i64 a) := hk.cell 1
  have x2 : w.cell? ⟨g, 2, none⟩ = some (.int .u64 s) := hk.cell 2
  have f0 := hk.free 0
  have f1 := hk.free 1
  have f2 := hk.free 2
  have hgs := hk.lt
  clear hk hlt
  by_cases hlt : a < (l.length : Int)
  · obtain ⟨k, rfl⟩ : ∃ k : Nat, a = (k : Int) := ⟨a.toNat, by omega⟩
    have hkl : k < l.length := by omega
    obtain ⟨b, o, rfl, hb, hcs⟩ := hrd.at_ (by simp; omega)
    have hcell := hcs k (.int .u8 l[k]) (by simp [hkl])
    have hxb := hlb l[k] (List.getElem_mem _)
    have hbg : b ≠ g := hne (by omega) _ rfl
    generalize l[k] = x at *
    clear hcs hlb
    go_enter Tryz.func124, Tryz.ntmps124
    go_wp2
    go_quiet (fail)
    go_wp2
    go_quiet (fail)
    go_wp2
    go_quiet (fail)
    go_wp2
    go_ret
    have hu := u64_bd (IntKind.u64.wrap (IntKind.u64.wrap (s * 6364136223846793005) + x) + 1442695040888963407)
    exact ⟨_, rfl, ⟨_, rfl, hxb.1, hxb.2⟩, cur_put (n := n + 1) HC.out HK.out (by omega) (by omega) hu.1 hu.2 _ _⟩
  · go_enter Tryz.func124, Tryz.ntmps124
    go_wp2
    go_quiet (fail)
    go_wp2
    go_quiet (fail)
    go_wp2
    go_ret
    have hu := u64_bd (IntKind.u64.wrap (IntKind.u64.wrap (s * 6364136223846793005)) + 1442695040888963407)
    have hq := byte_of (x := IntKind.u64.wrap (IntKind.u64.wrap (IntKind.u64.wrap (s * 6364136223846793005)) + 1442695040888963407) / 1099511627776) (by omega) (by omega)
    refine ⟨_, rfl, ⟨_, rfl, ?_, ?_⟩, ?_⟩
    · unfold wrap64; omega
    · unfold wrap64; omega
    · exact cur_put (n := n + 1) HC.out HK.out (by omega) (by omega) hu.1 hu.2 _ _

theorem emod_le_of {x m : Int} (hx : 0 ≤ x) (hm : 0 < m) : x % m ≤ x := by
  by_cases h : x < m
  · rw [Int.emod_eq_of_lt hx h]; omega
  · have := Int.emod_lt_of_pos x hm; omega
section
variable {w : World} {g n : Nat} {cd : Value}
def PickR (m : Int) (v : Value) : Prop := ∃ r : Int, v = .int .i64 r ∧ 0 ≤ r ∧ r ≤ 65535 ∧ (r < m ∨ m ≤ 0)
def BoolR (v : Value) : Prop := ∃ b : Bool, v = .bool b
def AnyR (v : Value) : Prop := ∃ r : Int, v = .int .i64 r ∧ -9223372036854775808 ≤ r ∧ r ≤ 9223372036854775807
theorem Drew.mono {R R' : Value → Prop} {m : Nat} {e : Ending} {w' : World} (h : Drew w g cd n R e w') (hm : n ≤ m) (hR : ∀ v, R v → R' v) : Drew w g cd m R' e w' := by
  obtain ⟨v, e, h1, h2, h3⟩ := h
  exact ⟨v, e, hR _ h1, h2.mono hm, h3⟩
theorem c_pick {m : Int} (h : Cur w g cd n) (hn : n ≤ 100000000000) (hm : m ≤ 9223372036854775807) : Calls Tryz.prog 55 #[.pointer (some ⟨g, 0, none⟩), .int .i64 m] w (Drew w g cd (n + 2) (PickR m)) := by
  by_cases h1 : m ≤ 1
  · have H := Lib.hid (h.mono (show n ≤ n + 2 by omega))
    clear h
    go_enter Tryz.func55, Tryz.ntmps55
    go_wp2
    go_ret
    exact ⟨_, rfl, ⟨0, rfl, by omega, by omega, by omega⟩, H.out, only_refl _ _⟩
  · by_cases h2 : m ≤ 200
    · go_enter Tryz.func55, Tryz.ntmps55
      go_wp2_with fail
      refine (c_next h (by omega)).mono ?_
      rintro e w1 ⟨v, rfl, ⟨r, rfl, hr0, hr1⟩, hc1, hg1⟩
      replace hc1 := Lib.hid (hc1.mono (show n + 1 ≤ n + 2 by omega))
      have hq0 : 0 ≤ r % m := Int.emod_nonneg _ (by omega)
      have hq1 : r % m < m := Int.emod_lt_of_pos _ (by omega)
      go_wp2
      go_ret
      refine ⟨_, rfl, ⟨_, rfl, ?_, ?_, ?_⟩, hc1.out, hg1⟩ <;> (first | omega | skip)
    · go_enter Tryz.func55, Tryz.ntmps55
      go_wp2_with fail
      refine (c_next h (by omega)).mono ?_
      rintro e w1 ⟨v, rfl, ⟨r, rfl, hr0, hr1⟩, hc1, hg1⟩
      replace hg1 := Lib.hid hg1
      go_wp2_with fail
      refine (c_next hc1 (by omega)).mono ?_
      rintro e w2 ⟨v, rfl, ⟨q, rfl, hs0, hs1⟩, hc2, hg2⟩
      replace hc2 := Lib.hid hc2
      replace hg2 := Lib.hid (only_trans hg1.out hg2)
      clear hg1 hc1 h
      have hq0 : 0 ≤ (r * 256 + q) % m := Int.emod_nonneg _ (by omega)
      have hq1 : (r * 256 + q) % m < m := Int.emod_lt_of_pos _ (by omega)
      have hq2 : (r * 256 + q) % m ≤ r * 256 + q := emod_le_of (by omega) (by omega)
      go_wp2
      go_ret
      refine ⟨_, rfl, ⟨_, rfl, ?_, ?_, ?_⟩, hc2.out, hg2.out⟩ <;> (first | omega | skip)
theorem c_one {m : Int} (h : Cur w g cd n) (hn : n ≤ 100000000000) (hm : m ≤ 9223372036854775807) : Calls Tryz.prog 105 #[.pointer (some ⟨g, 0, none⟩), .int .i64 m] w (Drew w g cd (n + 2) BoolR) := by
  go_enter Tryz.func105, Tryz.ntmps105
  go_wp2_with fail
  refine (c_pick h hn hm).mono ?_
  rintro e w1 ⟨v, rfl, ⟨r, rfl, hr⟩, hc1, hg1⟩
  replace hc1 := Lib.hid hc1
  replace hg1 := Lib.hid hg1
  go_wp2
  go_ret
  exact ⟨_, rfl, ⟨_, rfl⟩, hc1.out, hg1.out⟩
def ofL (l : List Int) (v : Value) : Prop := ∃ x : Int, v = .int .i64 x ∧ x ∈ l
theorem c_among {l : List Int} {lv : Value} (h : Cur w g cd n) (hn : n ≤ 100000000000) (hl : Ints w lv l) (hl0 : 0 < l.length) (hl1 : l.length ≤ 1000) (hne : ∀ b, lv.ownBlock = some b → b ≠ g) :
    Calls Tryz.prog 54 #[.pointer (some ⟨g, 0, none⟩), lv] w (Drew w g cd (n + 2) (ofL l)) := by
  have H := Lib.hid hl
  have HN := Lib.hid hne
  obtain ⟨A, c, rfl, hlc, hcm, -⟩ := hl
  unfold maxLen at hcm
  go_enter Tryz.func54, Tryz.ntmps54
  go_wp2_with fail
  refine (c_pick (m := (l.length : Int)) h hn (by omega)).mono ?_
  rintro e w1 ⟨v, rfl, ⟨r, rfl, hr0, hr1, hr2⟩, hc1, hg1⟩
  obtain ⟨k, rfl⟩ : ∃ k : Nat, r = (k : Int) := ⟨r.toNat, by omega⟩
  have hk : k < l.length := by omega
  have hl1 := H.out.grown hg1 (fun b hb e => HN.out b hb (by injection e))
  obtain ⟨A', c', e, -, -, h3⟩ := hl1
  injection e with e1 e2 e3
  subst e1 e3
  obtain ⟨b, o, x, rfl, hb, hx, hcx⟩ := h3.int_at hk
  replace hc1 := Lib.hid hc1
  replace hg1 := Lib.hid hg1
  clear H HN hne h3
  go_wp2
  go_ret
  exact ⟨_, rfl, ⟨_, rfl, List.mem_of_getElem? hx⟩, hc1.out, hg1.out⟩
theorem c_label (h : Cur w g cd n) (hn : n ≤ 10000000000) : Calls Tryz.prog 116 #[.pointer (some ⟨g, 0, none⟩)] w (Drew w g cd (n + 6) (IntR (-1) 66000)) := by
  have hgl := h.lt
  go_enter Tryz.func116, Tryz.ntmps116
  go_wp2_with fail
  refine (c_one h (by omega) (by omega)).mono ?_
  rintro e w1 ⟨v, rfl, ⟨b, rfl⟩, hc1, hg1⟩
  have hs := hg1.size
  cases b
  · replace hg1 := Lib.hid hg1
    clear h
    go_wp2_with fail
    refine (c_pick hc1 (by omega) (by omega)).mono ?_
    rintro e w2 ⟨v, rfl, ⟨r, rfl, hr0, hr1, hr2⟩, hc2, hg2⟩
    replace hg2 := Lib.hid (only_trans hg1.out hg2)
    clear hc1 hg1
    go_wp2_with fail
    refine (c_pick hc2 (by omega) (by omega)).mono ?_
    rintro e w3 ⟨v, rfl, ⟨q, rfl, hq0, hq1, hq2⟩, hc3, hg3⟩
    replace hg3 := Lib.hid (only_trans hg2.out hg3)
    replace hc3 := Lib.hid hc3
    clear hc2 hg2
    go_wp2
    go_ret
    exact ⟨_, rfl, ⟨_, rfl, by omega, by omega⟩, hc3.out, hg3.out⟩
  · replace hg1 := Lib.hid hg1
    clear h
    go_wp2_with fail
    refine (c_among (l := [-1, 0, 65535, 65536]) (hc1.below ((Below.refl _ _).alloc (Nat.le_refl _) _)) (by omega) (ints_lit _ _ _ rfl (by simp)) (by simp) (by simp) (by rintro b hb; simp [Value.ownBlock] at hb; omega)).mono ?_
    rintro e w2 ⟨v, rfl, ⟨r, rfl, hr⟩, hc2, hg2⟩
    replace hg2 := Lib.hid (only_trans hg1.out (only_trans (only_below ((Below.refl _ _).alloc (Nat.le_refl _) _) _) hg2))
    replace hc2 := Lib.hid (hc2.mono (show n + 2 + 2 ≤ n + 6 by omega))
    clear hc1 hg1
    have hr2 : -1 ≤ r ∧ r ≤ 66000 := by simp at hr; omega
    go_wp2
    go_ret
    exact ⟨_, rfl, ⟨_, rfl, hr2.1, hr2.2⟩, hc2.out, hg2.out⟩
theorem c_offset (h : Cur w g cd n) (hn : n ≤ 1000000000) : Calls Tryz.prog 111 #[.pointer (some ⟨g, 0, none⟩)] w (Drew w g cd (n + 8) (IntR (-1) 66000)) := by
  go_enter Tryz.func111, Tryz.ntmps111
  go_wp2_with fail
  refine (c_one h (by omega) (by omega)).mono ?_
  rintro e w1 ⟨v, rfl, ⟨b, rfl⟩, hc1, hg1⟩
  replace hg1 := Lib.hid hg1
  clear h
  cases b
  · go_wp2_with fail
    refine (c_pick hc1 (by omega) (by omega)).mono ?_
    rintro e w2 ⟨v, rfl, ⟨r, rfl, hr0, hr1, hr2⟩, hc2, hg2⟩
    replace hg2 := Lib.hid (only_trans hg1.out hg2)
    replace hc2 := Lib.hid (hc2.mono (show n + 2 + 2 ≤ n + 8 by omega))
    clear hc1 hg1
    go_wp2
    go_ret
    exact ⟨_, rfl, ⟨_, rfl, by omega, by omega⟩, hc2.out, hg2.out⟩
  · go_wp2_with fail
    refine (c_label hc1 (by omega)).mono ?_
    rintro e w2 ⟨v, rfl, ⟨r, rfl, hr0, hr1⟩, hc2, hg2⟩
    replace hg2 := Lib.hid (only_trans hg1.out hg2)
    replace hc2 := Lib.hid hc2
    clear hc1 hg1
    go_wp2
    go_ret
    exact ⟨_, rfl, ⟨_, rfl, by omega, by omega⟩, hc2.out, hg2.out⟩
theorem c_secret (h : Cur w g cd n) (hn : n ≤ 10000000000) : Calls Tryz.prog 89 #[.pointer (some ⟨g, 0, none⟩)] w (Drew w g cd (n + 4) (IntR (-1) 1000000001)) := by
  have hgl := h.lt
  go_enter Tryz.func89, Tryz.ntmps89
  go_wp2_with fail
  refine (c_one h (by omega) (by omega)).mono ?_
  rintro e w1 ⟨v, rfl, ⟨b, rfl⟩, hc1, hg1⟩
  have hs := hg1.size
  replace hg1 := Lib.hid hg1
  clear h
  cases b
  · go_wp2_with fail
    refine (c_pick hc1 (by omega) (by omega)).mono ?_
    rintro e w2 ⟨v, rfl, ⟨r, rfl, hr0, hr1, hr2⟩, hc2, hg2⟩
    replace hg2 := Lib.hid (only_trans hg1.out hg2)
    replace hc2 := Lib.hid hc2
    clear hc1 hg1
    go_wp2
    go_ret
    exact ⟨_, rfl, ⟨_, rfl, by omega, by omega⟩, hc2.out, hg2.out⟩
  · go_wp2_with fail
    refine (c_among (l := [0, 1000000000, 1000000001, -1]) (hc1.below ((Below.refl _ _).alloc (Nat.le_refl _) _)) (by omega) (ints_lit _ _ _ rfl (by simp)) (by simp) (by simp) (by rintro b hb; simp [Value.ownBlock] at hb; omega)).mono ?_
    rintro e w2 ⟨v, rfl, ⟨r, rfl, hr⟩, hc2, hg2⟩
    replace hg2 := Lib.hid (only_trans hg1.out (only_trans (only_below ((Below.refl _ _).alloc (Nat.le_refl _) _) _) hg2))
    replace hc2 := Lib.hid hc2
    clear hc1 hg1
    have hr2 : -1 ≤ r ∧ r ≤ 1000000001 := by simp at hr; omega
    go_wp2
    go_ret
    exact ⟨_, rfl, ⟨_, rfl, hr2.1, hr2.2⟩, hc2.out, hg2.out⟩
end
end Go.Proofs.YtejeppjmlgfiaaaGreat

/- Contracts that the laws over draws share: the bytes' form, the test of their size. No condition. -/
namespace Go.Proofs.YtejeppjmlgfiaaaGreat
open Go.RowKit
set_option linter.unusedVariables false
section
variable {w : World} {cd : Value} {l : List Int}
theorem Byts.form (h : Byts w cd l) : ∃ A c, cd = .slice A l.length c := by obtain ⟨⟨A, c, e, -⟩, -⟩ := h; exact ⟨A, c, e⟩
def RetB (e : Ending) : Prop := ∃ b : Bool, e = .returned (.bool b)
theorem c_laws_big {l2 : List Int} {cd2 : Value} (h : Byts w cd l) (h2 : Byts w cd2 l2) : Calls Tryz.prog 22 #[cd, cd2] w fun e w' => RetB e ∧ w = w' := by
  obtain ⟨⟨A, c, rfl, h1, k1, -⟩, -⟩ := h
  obtain ⟨⟨A2, c2, rfl, h3, k3, -⟩, -⟩ := h2
  unfold maxLen at k1 k3
  go_enter Tryz.func22, Tryz.ntmps22
  go_wp2
  all_goals (go_ret; exact ⟨⟨_, rfl⟩, rfl⟩)
end
end Go.Proofs.YtejeppjmlgfiaaaGreat

/- Contracts of the draws of fields' numbers. Conditions: the bounds that each names. -/
namespace Go.Proofs.YtejeppjmlgfiaaaGreat
open Go.RowKit
set_option linter.unusedVariables false
set_option maxHeartbeats 1000000
section
variable {w : World} {g n : Nat} {cd : Value}
/-- The moduli that are drawn. -/
def primesL : List Int := [2, 3, 5, 7, 7, 11, 13, 13, 17, 31, 97, 251]
variable {l : List Int}
end
end Go.Proofs.YtejeppjmlgfiaaaGreat

/- Contracts of the draws of lists: some list of the right length and range comes back in new memory. Conditions: the bounds that each names. -/
namespace Go.Proofs.YtejeppjmlgfiaaaGreat
open Go.RowKit
set_option linter.unusedVariables false
set_option maxHeartbeats 1000000
section
variable {w w1 w2 : World} {g n : Nat} {cd : Value}
/-- A list is drawn: some list in new memory, and only the cursor's block is changed. -/
def DrewL (w : World) (g : Nat) (cd : Value) (n : Nat) (R : List Int → Prop) (e : Ending) (w' : World) : Prop := ∃ u l, e = .returned u ∧ R l ∧ OwnI w' w.heap.size u l ∧ Cur w' g cd n ∧ w.grownBy w' (some g)
theorem grown_own {b : Option Nat} (h : w.grownBy w1 (some g)) (h2 : w1.grownBy w2 b) (hb : ∀ k, b = some k → w.heap.size ≤ k) : w.grownBy w2 (some g) := by
  obtain ⟨a1, a2, a3, a4, a5⟩ := h
  obtain ⟨b1, b2, b3, b4, b5⟩ := h2
  refine ⟨b1.trans a1, b2.trans a2, b3.trans a3, Nat.le_trans a4 b4, fun i hi hn => ?_⟩
  rw [b5 i (Nat.lt_of_lt_of_le hi a4) (fun e => by have := hb i e.symm; omega), a5 i hi hn]
/-- An append onto a slice of the draw's own. -/
theorem Cur.app {b : Option Nat} (h0 : CodeIn w cd g) (h1 : Cur w1 g cd n) (hw : w.grownBy w1 (some g)) (h2 : w1.grownBy w2 b) (hb : ∀ k, b = some k → w.heap.size ≤ k) (hg : g < w.heap.size) : Cur w2 g cd n ∧ w.grownBy w2 (some g) := by
  have hw2 := grown_own hw h2 hb
  obtain ⟨_, a, s, h3, h4, h5, h6, h7⟩ := h1
  exact ⟨⟨h0.grown hw2, a, s, h3, h4, h5, h6, h7.grown h2 (fun e => by have := hb g e.symm; omega)⟩, hw2⟩
theorem own_app {u : Value} {l : List Int} (h : OwnI w1 w.heap.size u l) (hg : g < w.heap.size) (h2 : w1.grownBy w2 (some g)) : OwnI w2 w.heap.size u l :=
  h.grown h2 (fun b hb e => by have := h.ge b hb; injection e with e; omega)
end
end Go.Proofs.YtejeppjmlgfiaaaGreat

/- Contracts of the draws of lists of elements, bits and values. Conditions: the bounds that each names. -/
namespace Go.Proofs.YtejeppjmlgfiaaaGreat
open Go.RowKit
set_option linter.unusedVariables false
set_option maxHeartbeats 1000000
section
variable {w : World} {g n : Nat} {cd : Value}
/-- So many numbers, each from a to b. -/
def ListR (k : Nat) (a b : Int) (l : List Int) : Prop := l.length = k ∧ ∀ x ∈ l, a ≤ x ∧ x ≤ b
theorem ListR.snoc {k : Nat} {a b x : Int} {l : List Int} (h : ListR k a b l) (hx : a ≤ x ∧ x ≤ b) : ListR (k + 1) a b (l ++ [x]) := by
  refine ⟨by simp [h.1], fun y hy => ?_⟩
  rcases List.mem_append.1 hy with hy | hy
  · exact h.2 y hy
  · simp at hy; subst hy; exact hx
theorem c_bits {m : Nat} (h : Cur w g cd n) (hn : n ≤ 100000000) (hm : m ≤ 1000) : Calls Tryz.prog 122 #[.pointer (some ⟨g, 0, none⟩), .int .i64 (m : Int)] w (DrewL w g cd (n + 4 * m) (ListR m (0) 1)) := by
  have hgl := h.lt
  have HC0 := Lib.hid h
  have HCD := Lib.hid h.1
  go_enter Tryz.func122, Tryz.ntmps122
  go_wp2
  go_loopw [1, 5] (fun i u wr => ∃ (k : Nat) (l : List Int), k ≤ m ∧ i = .int .i64 ((m : Int) - k) ∧ Hid (ListR k (0) 1 l) ∧ Hid (OwnI wr w.heap.size u l) ∧ Hid (Cur wr g cd (n + 4 * k)) ∧ Hid (w.grownBy wr (some g))) (fun i _ _ => (intOf i).toNat)
  case atStart => exact ⟨0, [], Nat.zero_le _, by simp, ⟨rfl, fun x hx => by simp at hx⟩, OwnI.nil _ _, HC0, Lib.hid (only_refl _ _)⟩
  case round =>
    obtain ⟨k, l, hk, rfl, HR, HO, HC, HG⟩ := hrel
    have hlen := HR.out.1
    have hs := HG.out.size
    by_cases hlt : k < m
    · have hpos : (0 : Int) < (m : Int) - k := by omega
      go_wp2_with fail
      refine (c_pick HC.out (by omega) (by omega)).mono ?_
      rintro e w1 ⟨v, rfl, ⟨r, rfl, hr0, -, hr1⟩, hc1, hg1⟩
      have HO1 := Lib.hid (own_app HO.out hgl hg1)
      have HC1 := Lib.hid hc1
      have HG1 := Lib.hid (only_trans HG.out hg1)
      have hsz : w.heap.size ≤ w1.heap.size := HG1.out.size
      clear hc1 hg1 HO HC HG
      go_wp2_with (at_builtin; refine wp_app1 (B := w.heap.size) rfl rfl Tryz.underlying24 info_int rfl HO1.out rfl rfl rfl (by unfold maxLen; omega) (by omega) hsz ?_; intro v' w9 ho hg hfr)
      have HA := Lib.hid (Cur.app HCD.out HC1.out HG1.out hg (fun b hb => HO1.out.ge b hb) hgl)
      go_roundw
      case rel => exact ⟨k + 1, _, by omega, by go_num, Lib.hid (HR.out.snoc (by omega)), Lib.hid (OwnI.snoc ho), Lib.hid (HA.out.1.mono (by omega)), Lib.hid HA.out.2⟩
      case measure => simp [intOf]; omega
    · obtain rfl : k = m := by omega
      have hpos : ¬ (0 : Int) < (k : Int) - k := by omega
      go_wp2
      go_ret
      exact ⟨_, l, rfl, HR.out, HO.out, HC.out, HG.out⟩
/-- At most so many numbers, each from a to b. -/
def LeR (k : Nat) (a b : Int) (l : List Int) : Prop := l.length ≤ k ∧ ∀ x ∈ l, a ≤ x ∧ x ≤ b
theorem ListR.le {k m : Nat} {a b a' b' : Int} {l : List Int} (h : ListR k a b l) (hk : k ≤ m) (ha : a' ≤ a) (hb : b ≤ b') : LeR m a' b' l := ⟨by rw [h.1]; exact hk, fun x hx => by have := h.2 x hx; omega⟩
end
end Go.Proofs.YtejeppjmlgfiaaaGreat
