/- What the laws' walks over circuits and tables need besides: sizes, ranges of blocks, worlds. Plain lemmas. -/
import Derived.Test.YtllaojfgenopbaaCirD
import Derived.Test.YtllaojfgenopbaaGbK
import Derived.Deep.RegionHeld3
import Derived.Deep.DeepCutAuto
namespace Go.Proofs.Ytllaojfgenopbaa
open Go.RowKit
set_option linter.unusedVariables false

theorem szM_le {left : Int} {n : Nat} (h : ¬ szM left n < 0) : (n : Int) ≤ left := by unfold szM at h; split at h <;> omega
theorem szCM_ok {left : Int} {c : Cir} (hl : 0 ≤ left ∧ left ≤ 1048576) (h : ¬ szCM left c < 0) : (0 ≤ szCM left c ∧ szCM left c ≤ 1048576) ∧ c.gs.length ≤ 1048576 ∧ c.outs.length ≤ 1048576 := by
  unfold szCM at h ⊢
  by_cases h1 : szM left c.gs.length < 0
  · rw [if_pos h1] at h; omega
  · rw [if_neg h1] at h ⊢
    have h2 := szM_not h1
    have h3 := szM_not h
    omega
theorem szGM_ok {left : Int} {g : Gb} (hl : 0 ≤ left ∧ left ≤ 1048576) (h : ¬ szGM left g < 0) : (0 ≤ szGM left g ∧ szGM left g ≤ 1048576) ∧ g.sz ≤ 1048576 := by
  have := szGM_bd h; omega
theorem Gb.cnt_le (g : Gb) : g.cnt ≤ g.sz := by unfold Gb.cnt Gb.sz; omega

section
variable {w w' : World} {B m : Nat} {gv ov rv cv v : Value} {vs F : List Value} {c : Cir} {g : Gb} {l : List Int}
theorem OwnC.bd (h : OwnC w B gv ov c m) : ∀ u ∈ [gv, ov], ∀ b, u.ownBlock = some b → B ≤ b ∧ b < w.heap.size := by
  intro u hu b hb
  simp only [List.mem_cons, List.not_mem_nil, or_false] at hu
  rcases hu with rfl | rfl
  · exact ⟨h.gates.ge b hb, h.gates.lt b hb⟩
  · exact ⟨Nat.le_trans h.le (h.outs.ge b hb), h.outs.lt b hb⟩
theorem OwnI.bd (h : OwnI w B v l) : ∀ u ∈ [v], ∀ b, u.ownBlock = some b → B ≤ b ∧ b < w.heap.size := by
  intro u hu b hb
  simp only [List.mem_cons, List.not_mem_nil, or_false] at hu
  subst hu; exact ⟨h.ge b hb, h.lt b hb⟩
theorem OwnI.apartFrom (h : OwnI w B v l) (ho : Only F w w') (hF : ∀ u ∈ F, ∀ b, u.ownBlock = some b → b < B) : OwnI w' B v l :=
  h.only ho fun u hu => Apt.ofLt (hF u hu) h.ge
theorem OwnC.apartFrom (h : OwnC w B gv ov c m) (ho : Only F w w') (hF : ∀ u ∈ F, ∀ b, u.ownBlock = some b → b < B) : OwnC w' B gv ov c m :=
  ⟨own_only h.gates ho fun u hu => Apt.ofLt (hF u hu) h.gates.ge, h.outs.only ho fun u hu => Apt.ofLt (hF u hu) fun b hb => Nat.le_trans h.le (h.outs.ge b hb), h.le, h.lt⟩
/-- A block apart from what a step may change. -/
theorem Blk.apart {b : Nat} {t : TypeId} {cs : Array Value} (h : Blk w b t cs) (ho : Only F w w') (hF : ∀ u ∈ F, u.ownBlock ≠ some b) : Blk w' b t cs := (ho.2 b h.lt hF).trans h
theorem ne_lo {lo hi b : Nat} (R : ∀ u ∈ F, ∀ b, u.ownBlock = some b → lo ≤ b ∧ b < hi) (h : b < lo) : ∀ u ∈ F, u.ownBlock ≠ some b := fun u hu e => by have := R u hu b e; omega
theorem ne_hi {lo hi b : Nat} (R : ∀ u ∈ F, ∀ b, u.ownBlock = some b → lo ≤ b ∧ b < hi) (h : hi ≤ b) : ∀ u ∈ F, u.ownBlock ≠ some b := fun u hu e => by have := R u hu b e; omega
theorem lt_hi {lo hi B : Nat} (R : ∀ u ∈ F, ∀ b, u.ownBlock = some b → lo ≤ b ∧ b < hi) (h : hi ≤ B) : ∀ u ∈ F, ∀ b, u.ownBlock = some b → b < B := fun u hu b e => by have := R u hu b e; omega
/-- A Below from an anchor that is older than what a step may change. -/
theorem anchor_only {a : World} {lo hi : Nat} (h : Below a.heap.size a w) (ho : Only F w w') (R : ∀ u ∈ F, ∀ b, u.ownBlock = some b → lo ≤ b ∧ b < hi) (hl : a.heap.size ≤ lo) : Below a.heap.size a w' :=
  h.trans (ho.below h.size fun u hu b hb => Nat.le_trans hl (R u hu b hb).1)
end
theorem c_laws_markCircuitO {gv ov : Value} {c : Cir} {w : World} {B m : Nat} {k : Int} (h : OwnC w B gv ov c m) (hl : c.gs.length ≤ 2097152) (hl2 : c.outs.length ≤ 2097152) (hk : 0 ≤ k ∧ k ≤ 100000000) :
    Calls Try.prog 17 #[cirV c gv ov, .int .i64 k] w fun e w' => e = .returned (.int .i64 (k + 3 * c.gs.length + c.outs.length)) ∧ Only [gv, ov] w w' :=
  (c_laws_markCircuit h hl hl2 hk).mono fun e w' ⟨he, h1, h2⟩ => ⟨he, h1 0 (fun _ _ => Nat.zero_le _) (fun _ _ => Nat.zero_le _) (Nat.zero_le _), fun b hb hF => h2 b hb (hF gv (by simp)) (hF ov (by simp))⟩
theorem c_laws_markIntSO {v : Value} {l : List Int} {w : World} {B : Nat} {k : Int} (h : OwnI w B v l) (hl : l.length ≤ 2097152) (hk : 0 ≤ k ∧ k ≤ 1000000000) :
    Calls Try.prog 18 #[v, .int .i64 k] w fun e w' => e = .returned (.int .i64 (k + l.length)) ∧ OwnI w' B v (marks k l.length) ∧ Only [v] w w' :=
  (c_laws_markIntS h hl hk).mono fun e w' ⟨he, h1, h2⟩ => ⟨he, h1, Only.ofGrown h2 (by simp)⟩
end Go.Proofs.Ytllaojfgenopbaa
