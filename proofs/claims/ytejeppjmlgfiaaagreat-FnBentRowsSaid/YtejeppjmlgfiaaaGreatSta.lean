/- Tables while they are being built: a block of the call's own that holds the rows, the ones and the colours. Plain lemmas; no condition but those that each names. -/
import Derived.Test.YtejeppjmlgfiaaaGreatGbK
import Derived.Test.YtejeppjmlgfiaaaGreatOwnK
import Derived.Deep.RegionHeld3
import Derived.Deep.RegionLaw
import Derived.Deep.DeepCutAuto
namespace Go.Proofs.YtejeppjmlgfiaaaGreat
open Go.RowKit
set_option linter.unusedVariables false

theorem grown_set (w : World) (p : Addr) (u : Value) : w.grownBy (w.setCell p u) (some p.block) :=
  ⟨rfl, rfl, rfl, by simp, fun i hi hn => Below.heap_setCell w p u i (fun e => hn (by rw [e]))⟩
theorem only_set (w : World) (b i : Nat) (u : Value) : Only [.slice (some ⟨b, 0, none⟩) 0 0] w (w.setCell ⟨b, i, none⟩ u) :=
  Only.ofGrown (v := .slice (some ⟨b, 0, none⟩) 0 0) (grown_set w ⟨b, i, none⟩ u) (by simp)
theorem below_refill {a w : World} {B : Nat} {o o' : Obj} (h : Below B a (w.alloc o)) (hs : B ≤ w.heap.size) : Below B a (w.alloc o') :=
  ⟨h.os, h.tape, h.output, by have := h.size; simp at this ⊢; exact this, fun k hk => by rw [Below.heap_alloc _ _ _ (by omega), ← Below.heap_alloc w o _ (by omega)]; exact h.block k hk⟩

/-- Tables begun: a block that holds no rows yet, and two slices of the call's own. -/
structure Three (t : TypeId) (wx w0 : World) (b : Nat) (ov cv : Value) (ones cols : List Int) : Prop where
  blk : Blk wx b t #[.slice none 0 0, ov, cv]
  ones : OwnI wx w0.heap.size ov ones
  cols : OwnI wx w0.heap.size cv cols
  apt : Apt ov cv
  far : ∀ u, u = ov ∨ u = cv → u.ownBlock ≠ some b
  lo : w0.heap.size ≤ b
  below : Below w0.heap.size w0 wx
section
variable {t : TypeId} {wb w0 : World} {b : Nat} {ov cv : Value} {ones cols : List Int}
theorem three_new (h1 : OwnI wb w0.heap.size ov ones) (h2 : OwnI wb w0.heap.size cv cols) (h3 : Apt ov cv) (h4 : Below w0.heap.size w0 wb) (h5 : w0.heap.size ≤ wb.heap.size) :
    Three t (wb.alloc (.cells #[.slice none 0 0, ov, cv] t)) w0 wb.heap.size ov cv ones cols := by
  have hb := (Below.refl wb.heap.size wb).alloc (Nat.le_refl _) (.cells #[.slice none 0 0, ov, cv] t)
  refine ⟨Blk.new _ _ _, h1.below hb, h2.below hb, h3, ?_, h5, h4.alloc h5 _⟩
  rintro u (rfl | rfl) e
  · have := h1.lt _ e; omega
  · have := h2.lt _ e; omega
theorem three_set (hk : Blk wb b t #[.slice none 0 0, .slice none 0 0, .slice none 0 0]) (h1 : OwnI wb w0.heap.size ov ones) (h2 : OwnI wb w0.heap.size cv cols) (h3 : Apt ov cv) (h4 : Below w0.heap.size w0 wb) (h6 : ∀ u, u = ov ∨ u = cv → u.ownBlock ≠ some b) (h5 : w0.heap.size ≤ b) :
    Three t (((wb.setCell ⟨b, 0, none⟩ (.slice none 0 0)).setCell ⟨b, 1, none⟩ ov).setCell ⟨b, 2, none⟩ cv) w0 b ov cv ones cols := by
  have f1 : ∀ g, ov.ownBlock = some g → g ≠ b := fun g e h => h6 ov (.inl rfl) (h ▸ e)
  have f2 : ∀ g, cv.ownBlock = some g → g ≠ b := fun g e h => h6 cv (.inr rfl) (h ▸ e)
  refine ⟨?_, ((h1.far (p := ⟨b, 0, none⟩) f1 _).far (p := ⟨b, 1, none⟩) f1 _).far (p := ⟨b, 2, none⟩) f1 _, ((h2.far (p := ⟨b, 0, none⟩) f2 _).far (p := ⟨b, 1, none⟩) f2 _).far (p := ⟨b, 2, none⟩) f2 _, h3, h6, h5,
    ((h4.setCell (p := ⟨b, 0, none⟩) h5 _).setCell (p := ⟨b, 1, none⟩) h5 _).setCell (p := ⟨b, 2, none⟩) h5 _⟩
  have := ((hk.set_ 0 (.slice none 0 0)).set_ 1 ov).set_ 2 cv
  simpa using this
end

/-- Tables under way. -/
structure Sta (t : TypeId) (wr w0 : World) (b : Nat) (rv ov cv : Value) (vs : List Value) (g : Gb) : Prop where
  blk : Blk wr b t #[rv, ov, cv]
  own : OwnGb wr w0.heap.size rv ov cv vs g
  far : ∀ u ∈ ov :: cv :: rv :: vs, u.ownBlock ≠ some b
  lo : w0.heap.size ≤ b
  below : Below w0.heap.size w0 wr
section
variable {t : TypeId} {wr w0 w1 w2 : World} {b : Nat} {rv ov cv : Value} {vs : List Value} {g : Gb}
theorem Three.sta {ones cols : List Int} (h : Three t wr w0 b ov cv ones cols) : Sta t wr w0 b (.slice none 0 0) ov cv [] ⟨[], ones, cols⟩ := by
  refine ⟨h.blk, ⟨OwnRs.nil wr _, h.ones, h.cols, ?_⟩, fun u hu => ?_, h.lo, h.below⟩
  · refine List.pairwise_cons.2 ⟨fun u hu => ?_, List.pairwise_cons.2 ⟨fun u hu => ?_, by simp⟩⟩
    · simp only [List.mem_cons, List.not_mem_nil, or_false] at hu
      rcases hu with rfl | rfl
      · exact h.apt
      · intro g _ e; cases e
    · simp only [List.mem_cons, List.not_mem_nil, or_false] at hu
      subst hu; intro g _ e; cases e
  · simp only [List.mem_cons, List.not_mem_nil, or_false] at hu
    rcases hu with rfl | rfl | rfl
    · exact h.far _ (.inl rfl)
    · exact h.far _ (.inr rfl)
    · intro e; cases e
theorem Sta.step (h : Sta t wr w0 b rv ov cv vs g) (hb : Below wr.heap.size wr w1) : Sta t w1 w0 b rv ov cv vs g :=
  ⟨h.blk.step hb, h.own.below hb, h.far, h.lo, h.below.trans (hb.mono h.below.size)⟩
theorem Sta.setB (h : Sta t wr w0 b rv ov cv vs g) (i : Nat) (u : Value) : OwnGb (wr.setCell ⟨b, i, none⟩ u) w0.heap.size rv ov cv vs g :=
  h.own.only (only_set wr b i u) fun v hv u' hu' g1 e e' => by
    simp at hv; subst hv
    simp [Value.ownBlock] at e; subst e
    exact h.far u' hu' e'
theorem OwnGb.setLow {B p : Nat} (h : OwnGb wr B rv ov cv vs g) (hp : p < B) (i : Nat) (u : Value) : OwnGb (wr.setCell ⟨p, i, none⟩ u) B rv ov cv vs g :=
  h.apartFrom (only_set wr p i u) fun v hv g1 e => by
    simp at hv; subst hv
    simp [Value.ownBlock] at e; subst e
    exact hp
/-- A new row. -/
theorem Sta.row {u v' : Value} {r : List Int} (h : Sta t wr w0 b rv ov cv vs g) (hb : Below wr.heap.size wr w1) (hu : OwnI w1 wr.heap.size u r)
    (ho : w2.ownsRow w0.heap.size 24 1 v' (g.rows.length + 1) (vs ++ [u])) (hg : w1.grownBy w2 rv.ownBlock) (hfr : ∀ g, v'.ownBlock = some g → rv.ownBlock = some g ∨ w1.heap.size ≤ g) :
    Sta t (w2.setCell ⟨b, 0, none⟩ v') w0 b v' ov cv (vs ++ [u]) ⟨g.rows ++ [r], g.ones, g.cols⟩ := by
  have hsz := h.below.size
  have hs1 := hb.size
  have hlt := h.blk.lt
  have hbd := h.own.bd
  have hap := List.pairwise_cons.1 h.own.apart
  have hap2 := List.pairwise_cons.1 hap.2
  have hrs := OwnRs.snoc h.own.rows hb hsz hu ho hg hfr
  have hov : OwnI w2 w0.heap.size ov g.ones := (h.own.ones.below hb).grown hg fun x e e' => hap.1 rv (by simp) x e (e'.symm)
  have hcv : OwnI w2 w0.heap.size cv g.cols := (h.own.cols.below hb).grown hg fun x e e' => hap2.1 rv (by simp) x e (e'.symm)
  have hA : ∀ x, (x = ov ∨ x = cv) → ∀ y ∈ v' :: (vs ++ [u]), Apt x y := by
    intro x hx y hy a e e'
    have hxl : a < wr.heap.size := by rcases hx with rfl | rfl; exact h.own.ones.lt a e; exact h.own.cols.lt a e
    have hxo : ∀ y ∈ rv :: vs, y.ownBlock ≠ some a := by
      intro y hy; rcases hx with rfl | rfl
      · exact hap.1 y (List.mem_cons_of_mem _ hy) a e
      · exact hap2.1 y hy a e
    rcases List.mem_cons.1 hy with rfl | hy
    · rcases hfr a e' with h1 | h1
      · exact hxo rv (by simp) h1
      · omega
    · rcases List.mem_append.1 hy with hy | hy
      · exact hxo y (List.mem_cons_of_mem _ hy) e'
      · simp at hy; subst hy
        have := hu.ge a e'; omega
  have hown : OwnGb w2 w0.heap.size v' ov cv (vs ++ [u]) ⟨g.rows ++ [r], g.ones, g.cols⟩ := by
    refine ⟨hrs, hov, hcv, List.pairwise_cons.2 ⟨fun y hy => ?_, List.pairwise_cons.2 ⟨fun y hy => hA cv (.inr rfl) y hy, hrs.apart⟩⟩⟩
    rcases List.mem_cons.1 hy with rfl | hy
    · exact hap.1 y (by simp)
    · exact hA ov (.inl rfl) y hy
  have hfar : ∀ y ∈ ov :: cv :: v' :: (vs ++ [u]), y.ownBlock ≠ some b := by
    intro y hy e
    simp only [List.mem_cons, List.mem_append, List.not_mem_nil, or_false] at hy
    rcases hy with rfl | rfl | rfl | hy | rfl
    · exact h.far y (by simp) e
    · exact h.far y (by simp) e
    · rcases hfr b e with h1 | h1
      · exact h.far rv (by simp) h1
      · omega
    · exact h.far y (by simp [hy]) e
    · have := hu.ge b e; omega
  have hb2 : Below w0.heap.size w0 w2 := (h.below.trans (hb.mono hsz)).grown hg (by omega) fun x e => (hbd rv (by simp) x e).1
  have hk2 : Blk w2 b t #[rv, ov, cv] := (h.blk.step hb).grown hg fun e => h.far rv (by simp) e.symm
  refine ⟨?_, hown.only (only_set w2 b 0 v') ?_, hfar, h.lo, hb2.setCell (p := ⟨b, 0, none⟩) h.lo _⟩
  · have := hk2.set_ 0 v'; simpa using this
  · intro v hv u' hu' g1 e e'
    simp at hv; subst hv
    simp [Value.ownBlock] at e; subst e
    exact hfar u' hu' e'
end

section
variable {t : TypeId} {wr w0 w1 w2 : World} {b : Nat} {rv ov cv : Value} {vs : List Value} {g : Gb}
theorem Sta.one {v' : Value} {x : Int} (h : Sta t wr w0 b rv ov cv vs g) (hb : Below wr.heap.size wr w1)
    (ho : OwnI w2 w0.heap.size v' (g.ones ++ [x])) (hg : w1.grownBy w2 ov.ownBlock) (hfr : ∀ g, v'.ownBlock = some g → ov.ownBlock = some g ∨ w1.heap.size ≤ g) :
    Sta t (w2.setCell ⟨b, 1, none⟩ v') w0 b rv v' cv vs ⟨g.rows, g.ones ++ [x], g.cols⟩ := by
  have hsz := h.below.size
  have hs1 := hb.size
  have hlt := h.blk.lt
  have hbd := h.own.bd
  have hap := List.pairwise_cons.1 h.own.apart
  have hap2 := List.pairwise_cons.1 hap.2
  have hO : Only [ov] w1 w2 := Only.ofGrown hg (by simp)
  have hrs : OwnRs w2 w0.heap.size rv vs g.rows := (h.own.rows.below hb).only hO fun u hu u' hu' => by
    simp at hu; subst hu; exact hap.1 u' (List.mem_cons_of_mem _ hu')
  have hcv : OwnI w2 w0.heap.size cv g.cols := (h.own.cols.below hb).grown hg fun x e e' => hap.1 cv (by simp) x e'.symm e
  have hA : ∀ y ∈ cv :: rv :: vs, Apt v' y := by
    intro y hy a e e'
    rcases hfr a e with h1 | h1
    · exact hap.1 y hy a h1 e'
    · have := (hbd y (List.mem_cons_of_mem _ hy) a e').2; omega
  have hown : OwnGb w2 w0.heap.size rv v' cv vs ⟨g.rows, g.ones ++ [x], g.cols⟩ :=
    ⟨hrs, ho, hcv, List.pairwise_cons.2 ⟨hA, hap.2⟩⟩
  have hfar : ∀ y ∈ v' :: cv :: rv :: vs, y.ownBlock ≠ some b := by
    intro y hy e
    rcases List.mem_cons.1 hy with rfl | hy
    · rcases hfr b e with h1 | h1
      · exact h.far ov (by simp) h1
      · omega
    · exact h.far y (List.mem_cons_of_mem _ hy) e
  have hb2 : Below w0.heap.size w0 w2 := (h.below.trans (hb.mono hsz)).grown hg (by omega) fun x e => (hbd ov (by simp) x e).1
  have hk2 : Blk w2 b t #[rv, ov, cv] := (h.blk.step hb).grown hg fun e => h.far ov (by simp) e.symm
  refine ⟨?_, hown.only (only_set w2 b 1 v') ?_, hfar, h.lo, hb2.setCell (p := ⟨b, 1, none⟩) h.lo _⟩
  · have := hk2.set_ 1 v'; simpa using this
  · intro v hv u' hu' g1 e e'
    simp at hv; subst hv
    simp [Value.ownBlock] at e; subst e
    exact hfar u' hu' e'
end

structure SZ (t : TypeId) (wr w0 : World) (b : Nat) (u : Value) (l : List Int) (rv ov cv : Value) (vs : List Value) (g : Gb) : Prop where
  sta : Sta t wr w0 b rv ov cv vs g
  own : OwnI wr w0.heap.size u l
  apt : ∀ y ∈ ov :: cv :: rv :: vs, Apt u y
  far : u.ownBlock ≠ some b
section
variable {t : TypeId} {wr w0 w1 w2 : World} {b : Nat} {u rv ov cv : Value} {l : List Int} {vs : List Value} {g : Gb}
theorem SZ.step (h : SZ t wr w0 b u l rv ov cv vs g) (hb : Below wr.heap.size wr w1) : SZ t w1 w0 b u l rv ov cv vs g := ⟨h.sta.step hb, h.own.below hb, h.apt, h.far⟩
/-- The list grows. -/
theorem SZ.appU {v' : Value} {l' : List Int} (h : SZ t wr w0 b u l rv ov cv vs g) (ho : OwnI w1 w0.heap.size v' l') (hg : wr.grownBy w1 u.ownBlock) (hfr : ∀ g, v'.ownBlock = some g → u.ownBlock = some g ∨ wr.heap.size ≤ g) : SZ t w1 w0 b v' l' rv ov cv vs g := by
  have hO : Only [u] wr w1 := Only.ofGrown hg (by simp)
  have hs := h.sta.below.size
  refine ⟨⟨h.sta.blk.grown hg (fun e => h.far e.symm), h.sta.own.only hO (fun x hx y hy => ?_), h.sta.far, h.sta.lo, h.sta.below.grown hg hs (fun k e => h.own.ge k e)⟩, ho, fun y hy a e e' => ?_, fun e => ?_⟩
  · simp at hx; subst hx; exact h.apt y hy
  · rcases hfr a e with h1 | h1
    · exact h.apt y hy a h1 e'
    · have := (h.sta.own.bd y hy a e').2; omega
  · rcases hfr b e with h1 | h1
    · exact h.far h1
    · have := h.sta.blk.lt; omega
/-- A new row. -/
theorem SZ.row {u1 v' : Value} {r : List Int} (h : SZ t wr w0 b u l rv ov cv vs g) (hb : Below wr.heap.size wr w1) (hu : OwnI w1 wr.heap.size u1 r)
    (ho : w2.ownsRow w0.heap.size 24 1 v' (g.rows.length + 1) (vs ++ [u1])) (hg : w1.grownBy w2 rv.ownBlock) (hfr : ∀ g, v'.ownBlock = some g → rv.ownBlock = some g ∨ w1.heap.size ≤ g) :
    SZ t (w2.setCell ⟨b, 0, none⟩ v') w0 b u l v' ov cv (vs ++ [u1]) ⟨g.rows ++ [r], g.ones, g.cols⟩ := by
  have hs1 := hb.size
  have hlt := h.own.lt
  refine ⟨h.sta.row hb hu ho hg hfr, ?_, fun y hy a e e' => ?_, h.far⟩
  · refine OwnI.far (p := ⟨b, 0, none⟩) ((h.own.below hb).grown hg (fun a e e' => h.apt rv (by simp) a e e'.symm)) (fun a e e' => h.far (by rw [e, e'])) v'
  · have hal := hlt a e
    simp only [List.mem_cons, List.mem_append, List.not_mem_nil, or_false] at hy
    rcases hy with rfl | rfl | rfl | hy | rfl
    · exact h.apt y (by simp) a e e'
    · exact h.apt y (by simp) a e e'
    · rcases hfr a e' with h1 | h1
      · exact h.apt rv (by simp) a e h1
      · omega
    · exact h.apt y (by simp [hy]) a e e'
    · have := hu.ge a e'; omega
/-- A new number behind the ones. -/
theorem SZ.one {v' : Value} {x : Int} (h : SZ t wr w0 b u l rv ov cv vs g) (hb : Below wr.heap.size wr w1)
    (ho : OwnI w2 w0.heap.size v' (g.ones ++ [x])) (hg : w1.grownBy w2 ov.ownBlock) (hfr : ∀ g, v'.ownBlock = some g → ov.ownBlock = some g ∨ w1.heap.size ≤ g) :
    SZ t (w2.setCell ⟨b, 1, none⟩ v') w0 b u l rv v' cv vs ⟨g.rows, g.ones ++ [x], g.cols⟩ := by
  have hs1 := hb.size
  have hlt := h.own.lt
  refine ⟨h.sta.one hb ho hg hfr, ?_, fun y hy a e e' => ?_, h.far⟩
  · refine OwnI.far (p := ⟨b, 1, none⟩) ((h.own.below hb).grown hg (fun a e e' => h.apt ov (by simp) a e e'.symm)) (fun a e e' => h.far (by rw [e, e'])) v'
  · have hal := hlt a e
    rcases List.mem_cons.1 hy with rfl | hy
    · rcases hfr a e' with h1 | h1
      · exact h.apt ov (by simp) a e h1
      · omega
    · exact h.apt y (List.mem_cons_of_mem _ hy) a e e'
/-- The colours are laid in. -/
theorem Sta.colours {c' : Value} {l' : List Int} (h : Sta t wr w0 b rv ov cv vs g) (hb : Below wr.heap.size wr w1) (hu : OwnI w1 wr.heap.size c' l') :
    Sta t (w1.setCell ⟨b, 2, none⟩ c') w0 b rv ov c' vs ⟨g.rows, g.ones, l'⟩ := by
  have h1 := h.step hb
  have hs := hb.size
  have hbd := h.own.bd
  have hlt := h.blk.lt
  have hap := List.pairwise_cons.1 h.own.apart
  have hap2 := List.pairwise_cons.1 hap.2
  have hown : OwnGb w1 w0.heap.size rv ov c' vs ⟨g.rows, g.ones, l'⟩ := by
    refine ⟨h1.own.rows, h1.own.ones, hu.mono h.below.size, List.pairwise_cons.2 ⟨fun y hy a e e' => ?_, List.pairwise_cons.2 ⟨fun y hy a e e' => ?_, hap2.2⟩⟩⟩
    · rcases List.mem_cons.1 hy with rfl | hy
      · have := hu.ge a e'; have := (hbd ov (by simp) a e).2; omega
      · exact hap.1 y (List.mem_cons_of_mem _ hy) a e e'
    · have := hu.ge a e
      have := (hbd y (List.mem_cons_of_mem _ (List.mem_cons_of_mem _ hy)) a e').2; omega
  have hfar : ∀ y ∈ ov :: c' :: rv :: vs, y.ownBlock ≠ some b := by
    intro y hy e
    simp only [List.mem_cons] at hy
    rcases hy with rfl | rfl | rfl | hy
    · exact h.far y (by simp) e
    · have := hu.ge b e; omega
    · exact h.far y (by simp) e
    · exact h.far y (by simp [hy]) e
  refine ⟨?_, hown.only (only_set w1 b 2 c') ?_, hfar, h.lo, h1.below.setCell (p := ⟨b, 2, none⟩) h.lo _⟩
  · have := h1.blk.set_ 2 c'; simpa using this
  · intro v hv u' hu' g1 e e'
    simp at hv; subst hv
    simp [Value.ownBlock] at e; subst e
    exact hfar u' hu' e'
end
end Go.Proofs.YtejeppjmlgfiaaaGreat
