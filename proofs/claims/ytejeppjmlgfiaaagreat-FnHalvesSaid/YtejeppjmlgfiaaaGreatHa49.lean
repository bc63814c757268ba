/- What a run of a halved circuit that came to something gives: contracts of all calls of the law. Conditions: the lists are short. -/
import Derived.Test.YtejeppjmlgfiaaaGreatHa47
import Derived.Test.YtejeppjmlgfiaaaGreatHa40
import Derived.Test.YtejeppjmlgfiaaaGreatHa48
import Derived.Test.YtejeppjmlgfiaaaGreatHa27
namespace Go.Proofs.YtejeppjmlgfiaaaGreat
open Go.RowKit
set_option linter.unusedVariables false

/-- A list comes back, and that it could. -/
def YesI (w : World) (l : List Int) (e : Ending) (w' : World) : Prop := ∃ u, e = .returned (.tuple #[u, .bool true]) ∧ OwnI w' w.heap.size u l ∧ Below w.heap.size w w'
def YesG (w : World) (g : Gb) (e : Ending) (w' : World) : Prop := ∃ rv ov cv vs, e = .returned (.tuple #[gbV rv ov cv, .bool true]) ∧ OwnGb w' w.heap.size rv ov cv vs g ∧ Below w.heap.size w w'
theorem RetIB.toYes {w w' : World} {l : List Int} {e : Ending} (h : RetIB w (some l) e w') : YesI w l e w' := h
theorem RetGbB.toYes {w w' : World} {g : Gb} {e : Ending} (h : RetGbB w (some g) e w') : YesG w g e w' := h
/-- What a run makes: the zero labels, the labels of outs and of inputs, the tables, the offset. -/
structure HvD where
  zs : List Int
  outs : List Int
  inp : List Int
  t : Gb
  r0 : Int
/-- What the law asks of a run that came to something. -/
structure HvP (c : Cir) (key : Int) (a b r : List Int) (P : HvD) : Prop where
  hob : 0 ≤ P.r0 ∧ P.r0 ≤ 65535
  hr : r.length = c.outs.length
  ho : P.outs.length = c.outs.length
  hol : c.outs.length ≤ 40
  hzl : P.zs.length ≤ 400
  hil : P.inp.length ≤ 40
  c7 : ∀ {W : World}, Calls Tryz.prog 19 #[.int .i64 key] W fun e w' => e = .returned (.tuple #[.int .i64 P.r0, .bool true]) ∧ Below W.heap.size W w'
  hlab : ∀ (i : Nat) (k : Int), c.outs[i]? = some k → ∃ v l z, r[i]? = some v ∧ P.outs[i]? = some l ∧ P.zs[k.toNat]? = some z ∧ 0 ≤ k ∧ k < (P.zs.length : Int) ∧ (v = 0 ∨ v = 1) ∧ (0 ≤ z ∧ z ≤ 65535) ∧ l = if v = 1 then xorI z P.r0 else z
  hts : P.t.sz ≤ 2000
  c1 : ∀ {W : World} {A A' Aa Ab : Option Addr} {k k' ka kb : Nat}, CirIn W (.slice A c.gs.length k) (.slice A' c.outs.length k') c → Ints W (.slice Aa a.length ka) a → Ints W (.slice Ab b.length kb) b →
        Calls Tryz.prog 18 #[.agg #[.int .i64 c.i0, .int .i64 c.i1, .slice A c.gs.length k, .slice A' c.outs.length k'], .slice Aa a.length ka, .slice Ab b.length kb] W (YesI W r)
  c2 : ∀ {W : World} {A A' : Option Addr} {k k' : Nat}, CirIn W (.slice A c.gs.length k) (.slice A' c.outs.length k') c →
        Calls Tryz.prog 10 #[.agg #[.int .i64 c.i0, .int .i64 c.i1, .slice A c.gs.length k, .slice A' c.outs.length k'], .int .i64 key, .int .i64 P.r0] W (YesG W P.t)
  c3 : ∀ {W : World} {A A' Aa Ab : Option Addr} {k k' ka kb : Nat}, CirIn W (.slice A c.gs.length k) (.slice A' c.outs.length k') c → Ints W (.slice Aa a.length ka) a → Ints W (.slice Ab b.length kb) b →
        Calls Tryz.prog 20 #[.agg #[.int .i64 c.i0, .int .i64 c.i1, .slice A c.gs.length k, .slice A' c.outs.length k'], .int .i64 key, .int .i64 P.r0, .slice Aa a.length ka, .slice Ab b.length kb] W (YesI W P.inp)
  c4 : ∀ {W : World} {A A' : Option Addr} {k k' : Nat} {rv nv cv u : Value}, CirIn W (.slice A c.gs.length k) (.slice A' c.outs.length k') c → GbIn W rv nv cv P.t → Ints W u P.inp →
        Calls Tryz.prog 21 #[.agg #[.int .i64 c.i0, .int .i64 c.i1, .slice A c.gs.length k, .slice A' c.outs.length k'], .agg #[rv, nv, cv], u] W (YesI W P.outs)
  c5 : ∀ {W : World} {A A' : Option Addr} {k k' : Nat}, CirIn W (.slice A c.gs.length k) (.slice A' c.outs.length k') c →
        Calls Tryz.prog 12 #[.agg #[.int .i64 c.i0, .int .i64 c.i1, .slice A c.gs.length k, .slice A' c.outs.length k'], .int .i64 key, .int .i64 P.r0] W (YesI W P.zs)
  c6 : ∀ {W : World} {A A' : Option Addr} {k k' : Nat}, CirIn W (.slice A c.gs.length k) (.slice A' c.outs.length k') c →
        Calls Tryz.prog 13 #[.agg #[.int .i64 c.i0, .int .i64 c.i1, .slice A c.gs.length k, .slice A' c.outs.length k'], .int .i64 key, .int .i64 P.r0] W (YesI W P.zs)
theorem hv_pack {c : Cir} {key : Int} {a b r : List Int} (hR : runM joinM hgZ hgR c key a b = some r) (hla : a.length ≤ 1048576) (hlb : b.length ≤ 1048576) : ∃ P : HvD, HvP c key a b r P := by
  have hcl := run_clear hgS hR
  obtain ⟨hq, hkey⟩ := run_some hR
  have hz := run_zeros (Z := hgZ) (R := hgR) hq hkey
  have ht := hg_tab_ok (key := key) (askedB_of hq).1 (off_lab key)
  have hin := run_in hq hkey
  have hev := run_ev (F := joinM) (Z := hgZ) (R := hgR) (key := key) hq ht
  have hil := run_inl (key := key) hq
  have htz := tab_sz (askedB_of hq).1 ht (by omega)
  have hcb := cirB_bd (askedB_of hq).1
  have hzl := made_len (Z := hgZ) (R := hgR) (key := key) (off := offM key) (c := c)
  have hrc : pickM (valsM (a ++ b) c.gs) c.outs = r := by have := hcl; unfold clearM at this; rw [if_pos hq] at this; injection this
  have hob := offM_bd key
  rw [hz.1] at hzl
  have hinl : (lbInM key (offM key) (a ++ b)).length ≤ 40 := by unfold Cir.ins at hil; omega
  refine ⟨⟨(zrM (hgZ (offM key)) (hgR (offM key)) key (offM key) c.ins.toNat c.gs).zs, outsM joinM hgZ hgR c key a b, lbInM key (offM key) (a ++ b), tabM (hgZ (offM key)) (hgR (offM key)) key (offM key) c, offM key⟩, ⟨hob.1, hob.2.1⟩, by rw [← hrc, pickM_length], by show (outsM joinM hgZ hgR c key a b).length = _; unfold outsM; rw [pickM_length], hcb.2.2.2.2.2, hzl, hinl, fun {W} => (c_impl_OffsetFrom (w := W)).mono fun e w' ⟨h1, h2⟩ => ⟨by rw [h1, show offsetM key = some (offM key) by unfold offsetM; rw [hkey]; rfl]; rfl, h2⟩, fun i k hk => by
    have h9 := run_labels (key := key) hgS hq hk
    rw [hrc] at h9
    exact h9, htz, fun h1 h2 h3 => ?_, fun h1 => ?_, fun h1 h2 h3 => ?_, fun h1 h2 h3 => ?_, fun h1 => ?_, fun h1 => ?_⟩
  · have := c_impl_EvalCircuit h1 h2 h3 hla hlb; rw [hcl] at this; exact this.mono fun e w' h => h.toYes
  · have := c_impl_HalveCircuit (key := key) (off := offM key) h1; rw [hz.2] at this; exact this.mono fun e w' h => h.toYes
  · have := c_impl_InputLabels (key := key) (r := offM key) h1 h2 h3 hla hlb; rw [hin] at this; exact this.mono fun e w' h => h.toYes
  · have := c_impl_EvalHalved h1 h2 (Nat.le_trans htz (by omega)) h3 (Nat.le_trans hinl (by omega)); rw [hev] at this; exact this.mono fun e w' h => h.toYes
  · have := c_impl_HalfZeros (key := key) (off := offM key) h1; rw [hz.1] at this; exact this.mono fun e w' h => h.toYes
  · have := c_spec_HalfZeros (key := key) (off := offM key) h1; rw [hz.1] at this; exact this.mono fun e w' h => h.toYes

end Go.Proofs.YtejeppjmlgfiaaaGreat
