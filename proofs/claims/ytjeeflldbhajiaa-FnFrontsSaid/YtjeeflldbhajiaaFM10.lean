/-
  Bars that are warmed, on: all cells in a tick. No condition but what each law says; nothing of the program is named here.
  Bars that are warmed, on: runs go through; what is molten, tick by tick. No condition but what each law says; nothing of the program is named here.
  Bars that are warmed, on: the run goes through; what is molten never falls by much, and is not nothing. No condition but what each law says; nothing of the program is named here.
  Bars that are warmed, on: all that the law asks of a run and its fronts. No condition but what each law says; nothing of the program is named here.
-/
import Derived.Test.YtjeeflldbhajiaaFM9
import Derived.Test.YtjeeflldbhajiaaFM7
import Derived.Test.YtjeeflldbhajiaaFM6
set_option linter.unusedSimpArgs false
set_option linter.unusedVariables false
set_option linter.unusedSectionVars false
namespace Go.Proofs.Ytjeeflldbhajiaa
open Go Go.RowKit
/-- A stuff, a step of a half, a tick, the side's warmth. -/
structure WB (s : St) (a b c d p l : Int) (q t lw : Nat) : Prop where
  tk : TK s a b c d p l q 2 (cn .f32 t)
  lo : (1 : Rat) / 256 ≤ fv .f32 (cn .f32 t)
  hi : fv .f32 (cn .f32 t) ≤ 16
  lv : V .f32 (cn .f32 lw) ((p : Rat) + 8)
/-- All heats: from nothing to so much above the latent one. -/
def HW (l : Int) (xs : List Nat) (K : Rat) : Prop := ∀ j, j < xs.length → fnt .f32 (hX xs j) = true ∧ 0 ≤ fv .f32 (hX xs j) ∧ fv .f32 (hX xs j) ≤ (l : Rat) / 2 + K
section
variable {s : St} {a b c d p l : Int} {q t lw rw' : Nat} {xs : List Nat}
theorem WB.half (h : WB s a b c d p l q t lw) : V .f32 (cn .f32 q) ((1 : Rat) / 2) := by
  have := h.tk.hq
  have e : ((2 : Int) : Rat) / 4 = 1 / 2 := by have : ((2 : Int) : Rat) = 2 := rfl; rw [this]; grind
  rwa [e] at this
theorem WB.nums (h : WB s a b c d p l q t lw) : 0 < 2 * fv .f32 (cn .f32 t) ∧ (2 * fv .f32 (cn .f32 t)) * ((moreI c d : Rat) / 4) ≤ 1001 / 8000 * ((lessI a b : Rat) / 2) := by
  obtain ⟨i, g, τ, ⟨i1, _⟩, ⟨g1, _⟩, ⟨τ1, _⟩, hk⟩ := h.tk.nums
  have e2 : ((2 : Int) : Rat) = 2 := rfl
  rw [e2] at i1
  have ei : i = 2 := by grind
  have := h.tk.t0
  have e : τ * ((moreI c d : Rat) / 4) = 2 * (2 * fv .f32 (cn .f32 t) * ((moreI c d : Rat) / 4)) := by rw [τ1, g1, ei]; grind
  rw [e] at hk
  exact ⟨by grind, by grind⟩
/-- What flows in from a warmth in between; what flows out to one. -/
theorem into_of {g N m Y p w : Rat} (hq : V .f32 (cn .f32 q) ((1 : Rat) / 2)) (hg : 0 < g) (hN : 0 ≤ N) (hm : (1 : Rat) / 4 ≤ m ∧ m ≤ 2) (hk : g * m ≤ 1001 / 8000 * N) {X u v : Nat} (hX : fnt .f32 X = true ∧ 0 ≤ fv .f32 X ∧ fv .f32 X ≤ 1001 / 1000 * m) (hu : fnt .f32 u = true) (hv : fnt .f32 v = true) (hY : Y ≤ 20) (b1 : p ≤ fv .f32 u ∧ fv .f32 u ≤ p + Y) (b2 : p ≤ fv .f32 v ∧ fv .f32 v ≤ p + Y) :
    fnt .f32 (fop .quo .f32 (fop .mul .f32 X (fop .sub .f32 u v)) (cn .f32 q)) = true ∧ (fv .f32 v = w → IntoC g N p Y w (fv .f32 (fop .quo .f32 (fop .mul .f32 X (fop .sub .f32 u v)) (cn .f32 q)))) ∧ (fv .f32 u = w → IntoC g N p Y w (-fv .f32 (fop .quo .f32 (fop .mul .f32 X (fop .sub .f32 u v)) (cn .f32 q)))) := by
  have t30 := tp_pos (-30)
  have hb : -256 ≤ fv .f32 u - fv .f32 v ∧ fv .f32 u - fv .f32 v ≤ 256 := by constructor <;> grind
  obtain ⟨⟨f0, f1, f2⟩, f3, f4⟩ := edge_sign hq (X := X) ⟨hX.1, hX.2.1, by grind⟩ hu hv hb
  refine ⟨f0, fun hw => ?_, fun hw => ?_⟩
  · have k1 := edge_le (σ := 1) (Z := p + Y - w + tp (-30)) (.inl rfl) hq hg hm hk hX hu hv hb (by grind) (by grind)
    have k2 := edge_le (σ := -1) (Z := w - p + tp (-30)) (.inr rfl) hq hg hm hk hX hu hv hb (by grind) (by grind)
    exact ⟨⟨f1, f2⟩, by grind, by grind, fun e => f3 (by grind)⟩
  · have k1 := edge_le (σ := -1) (Z := p + Y - w + tp (-30)) (.inr rfl) hq hg hm hk hX hu hv hb (by grind) (by grind)
    have k2 := edge_le (σ := 1) (Z := w - p + tp (-30)) (.inl rfl) hq hg hm hk hX hu hv hb (by grind) (by grind)
    exact ⟨⟨by grind, by grind⟩, by grind, by grind, fun e => by have := f4 (by grind); grind⟩
/-- A tick of a warmed bar. -/
theorem tick_warm (h : WB s a b c d p l q t lw) {K : Rat} (hK : 8 * ((b : Rat) / 2) ≤ K ∧ K ≤ 8 * ((b : Rat) / 2) + 1 / 100) (hw : HW l xs K) {j : Nat} (hj : j < xs.length) :
    fnt .f32 (hX (stbX s q xs lw rw' true false t) j) = true ∧ 0 ≤ fv .f32 (hX (stbX s q xs lw rw' true false t) j) ∧ fv .f32 (hX (stbX s q xs lw rw' true false t) j) ≤ (l : Rat) / 2 + (K + tp (-15)) ∧ (fv .f32 (hX xs j) ≤ (l : Rat) / 2 → fv .f32 (hX xs j) ≤ fv .f32 (hX (stbX s q xs lw rw' true false t) j)) ∧ ((l : Rat) / 2 < fv .f32 (hX xs j) → (l : Rat) / 2 - tp (-16) ≤ fv .f32 (hX (stbX s q xs lw rw' true false t) j)) ∧ (j = 0 → (1 : Rat) / 64 ≤ fv .f32 (hX (stbX s q xs lw rw' true false t) j)) := by
  have sv := h.tk.sv
  have hb := sv.bd
  obtain ⟨_, ⟨b1, b2⟩, _, _, ⟨p1, p2⟩, ⟨l1, l2⟩⟩ := sv.rat
  have n1 := lessI_le a b
  have m1 := moreI_le c d
  have N1 : ((1 : Int) : Rat) ≤ (lessI a b : Rat) := icast_le (by omega)
  have N2 : (lessI a b : Rat) ≤ (b : Rat) := icast_le (by omega)
  have M1 : ((1 : Int) : Rat) ≤ (moreI c d : Rat) := icast_le (by omega)
  have M2 : (moreI c d : Rat) ≤ ((8 : Int) : Rat) := icast_le (by omega)
  obtain ⟨g0, gk⟩ := h.nums
  have hq := h.half
  have t16 := tp_n16
  have t160 := tp_pos (-16)
  have t30 := tp_pos (-30)
  obtain ⟨Y, hY⟩ : ∃ Y : Rat, (b : Rat) / 2 * Y = K + tp (-16) := ⟨(K + tp (-16)) / ((b : Rat) / 2), by
    have := Rat.div_mul_cancel (a := K + tp (-16)) (b := (b : Rat) / 2) (by grind)
    grind⟩
  have Y8 : 8 ≤ Y := mul_cancel_le (c := (b : Rat) / 2) (by grind) (by grind)
  have Y9 : Y ≤ 20 := mul_cancel_le (c := (b : Rat) / 2) (by grind) (by grind)
  -- warmths
  have wm : ∀ i, i < xs.length → fnt .f32 (warmC s.k (hX xs i)) = true ∧ (p : Rat) ≤ fv .f32 (warmC s.k (hX xs i)) ∧ fv .f32 (warmC s.k (hX xs i)) ≤ p + Y ∧ (fv .f32 (hX xs i) ≤ (l : Rat) / 2 → fv .f32 (warmC s.k (hX xs i)) = (p : Rat)) := by
    intro i hi
    obtain ⟨u0, u1, u2⟩ := hw i hi
    obtain ⟨w0, w1, w2, w3, w4, w5⟩ := warm_ex sv (H := hX xs i) ⟨u0, u1, by grind⟩
    have E1 : exE l (fv .f32 (hX xs i)) ≤ K := by unfold exE; split <;> grind
    refine ⟨w0, w1, ?_, w3⟩
    have : fv .f32 (warmC s.k (hX xs i)) - p ≤ Y := mul_cancel_le (c := (b : Rat) / 2) (by grind) (by grind)
    grind
  have es : ∀ i, i < xs.length → Btw .f32 (easeC s.k (hX xs i)) ((1 : Rat) / 4) ((moreI c d : Rat) / 4) := by
    intro i hi
    have := ease_in sv (hw i hi).1 (lo := 1) (hi := moreI c d) (by omega) (by omega) (by decide) (by omega)
    have e1 : ((1 : Int) : Rat) = 1 := rfl
    rwa [e1] at this
  have e1 : ((1 : Int) : Rat) = 1 := rfl
  have e8 : ((8 : Int) : Rat) = 8 := rfl
  rw [e1] at N1 M1
  rw [e8] at M2
  have mm : (1 : Rat) / 4 ≤ (moreI c d : Rat) / 4 ∧ (moreI c d : Rat) / 4 ≤ 2 := by constructor <;> grind
  have mean : ∀ i k, i < xs.length → k < xs.length → fnt .f32 (fop .quo .f32 (fop .mul .f32 (fop .mul .f32 (cn .f32 1073741824) (easeC s.k (hX xs i))) (easeC s.k (hX xs k))) (fop .add .f32 (easeC s.k (hX xs i)) (easeC s.k (hX xs k)))) = true ∧ 0 ≤ fv .f32 (fop .quo .f32 (fop .mul .f32 (fop .mul .f32 (cn .f32 1073741824) (easeC s.k (hX xs i))) (easeC s.k (hX xs k))) (fop .add .f32 (easeC s.k (hX xs i)) (easeC s.k (hX xs k)))) ∧ fv .f32 (fop .quo .f32 (fop .mul .f32 (fop .mul .f32 (cn .f32 1073741824) (easeC s.k (hX xs i))) (easeC s.k (hX xs k))) (fop .add .f32 (easeC s.k (hX xs i)) (easeC s.k (hX xs k)))) ≤ 1001 / 1000 * ((moreI c d : Rat) / 4) := fun i k hi hk => mean_btw mm (es i hi) (es k hk)
  have hN : 0 < (lessI a b : Rat) / 2 ∧ (lessI a b : Rat) / 2 ≤ (b : Rat) / 2 := by constructor <;> grind
  obtain ⟨w0, w1, w2, w3⟩ := wm j hj
  -- in and out
  have inn : fnt .f32 (flA s q xs lw rw' true false j) = true ∧ IntoC (2 * fv .f32 (cn .f32 t)) ((lessI a b : Rat) / 2) p Y (fv .f32 (warmC s.k (hX xs j))) (fv .f32 (flA s q xs lw rw' true false j)) := by
    by_cases h0 : j = 0
    · subst h0
      have := into_of (w := fv .f32 (warmC s.k (hX xs 0))) hq g0 (by grind) mm gk (X := easeC s.k (hX xs 0)) ⟨(es 0 hj).1, by have := (es 0 hj).2.1; grind, by have := (es 0 hj).2.2; grind⟩ h.lv.1 w0 Y9 (p := p) ⟨by rw [h.lv.2]; grind, by rw [h.lv.2]; grind⟩ ⟨w1, w2⟩
      have e : flA s q xs lw rw' true false 0 = fop .quo .f32 (fop .mul .f32 (easeC s.k (hX xs 0)) (fop .sub .f32 (cn .f32 lw) (warmC s.k (hX xs 0)))) (cn .f32 q) := by unfold flA inV; rw [if_pos rfl, if_pos rfl]; rfl
      rw [e]
      exact ⟨this.1, this.2.1 rfl⟩
    · obtain ⟨x0, x1, x2, x3⟩ := wm (j - 1) (by omega)
      have := into_of (w := fv .f32 (warmC s.k (hX xs j))) hq g0 (by grind) mm gk (mean (j - 1) j (by omega) hj) x0 w0 Y9 (p := p) ⟨x1, x2⟩ ⟨w1, w2⟩
      have e : flA s q xs lw rw' true false j = flowB s q (hX xs (j - 1)) (hX xs j) := by unfold flA; rw [if_neg h0, if_neg (by omega)]; rfl
      rw [e]
      exact ⟨this.1, this.2.1 rfl⟩
  have out : fnt .f32 (flA s q xs lw rw' true false (j + 1)) = true ∧ IntoC (2 * fv .f32 (cn .f32 t)) ((lessI a b : Rat) / 2) p Y (fv .f32 (warmC s.k (hX xs j))) (-fv .f32 (flA s q xs lw rw' true false (j + 1))) := by
    by_cases h0 : j + 1 = xs.length
    · have e : flA s q xs lw rw' true false (j + 1) = cn .f32 0 := by unfold flA outV; rw [if_neg (by omega), if_pos h0]; rfl
      rw [e, V0.2]
      have k1 := Rat.mul_nonneg (show 0 ≤ (lessI a b : Rat) / 2 by grind) (show 0 ≤ (p : Rat) + Y - fv .f32 (warmC s.k (hX xs j)) + tp (-30) by grind)
      have k2 := Rat.mul_nonneg (show 0 ≤ (lessI a b : Rat) / 2 by grind) (show 0 ≤ fv .f32 (warmC s.k (hX xs j)) - (p : Rat) + tp (-30) by grind)
      exact ⟨V0.1, ⟨by grind, by grind⟩, by grind, by grind, fun _ => by grind⟩
    · obtain ⟨x0, x1, x2, x3⟩ := wm (j + 1) (by omega)
      have := into_of (w := fv .f32 (warmC s.k (hX xs j))) hq g0 (by grind) mm gk (mean j (j + 1) hj (by omega)) w0 x0 Y9 (p := p) ⟨w1, w2⟩ ⟨x1, x2⟩
      have e : flA s q xs lw rw' true false (j + 1) = flowB s q (hX xs j) (hX xs (j + 1)) := by unfold flA; rw [if_neg (by omega), if_neg h0]; rfl
      rw [e]
      exact ⟨this.1, this.2.2 rfl⟩
  have hT : fnt .f32 (cn .f32 t) = true ∧ 0 < fv .f32 (cn .f32 t) ∧ fv .f32 (cn .f32 t) ≤ 16 := ⟨h.tk.hT, h.tk.t0, h.hi⟩
  have main := cell_tick sv hq hT rfl hN hK hY (hw j hj) inn.1 out.1 inn.2 out.2
  have eX : hX (stbX s q xs lw rw' true false t) j = fop .add .f32 (hX xs j) (fop .quo .f32 (fop .mul .f32 (cn .f32 t) (fop .sub .f32 (flA s q xs lw rw' true false j) (flA s q xs lw rw' true false (j + 1)))) (cn .f32 q)) := stbX_at hj
  rw [eX]
  obtain ⟨c0, c1, c2, c3, c4⟩ := main
  refine ⟨c0, c1, c2, c3, c4, fun h0 => ?_⟩
  subst h0
  by_cases hl : (l : Rat) / 2 < fv .f32 (hX xs 0)
  · have := c4 hl
    grind
  · have ew := w3 (by grind)
    obtain ⟨⟨i1, i2⟩, i3, i4, i5⟩ := inn.2
    obtain ⟨⟨o1, o2⟩, o3, o4, o5⟩ := out.2
    have four : 4 ≤ fv .f32 (flA s q xs lw rw' true false 0) := by
      have e : flA s q xs lw rw' true false 0 = fop .quo .f32 (fop .mul .f32 (easeC s.k (hX xs 0)) (fop .sub .f32 (cn .f32 lw) (warmC s.k (hX xs 0)))) (cn .f32 q) := by unfold flA inV; rw [if_pos rfl, if_pos rfl]; rfl
      rw [e]
      have d8 : ex .sub ((p : Rat) + 8) (p : Rat) = 8 := by simp only [ex]; grind
      have D := V.op .sub rfl h.lv (show V .f32 (warmC s.k (hX xs 0)) (p : Rat) from ⟨w0, ew⟩) (by simp) (by rw [d8]; exact Rep.int (k := .f32) 8 (by decide))
      rw [d8] at D
      obtain ⟨x0, x1, x2⟩ := es 0 hj
      have P := fop_btw .mul rfl .f32 (a := 2) (b := 16) x0 D.1 (by simp) (Rep.int (k := .f32) 2 (by decide)) (Rep.int (k := .f32) 16 (by decide)) (by simp only [ex]; rw [D.2]; grind) (by simp only [ex]; rw [D.2]; grind)
      obtain ⟨P0, P1, P2⟩ := P
      generalize fop .mul .f32 (easeC s.k (hX xs 0)) (fop .sub .f32 (cn .f32 lw) (warmC s.k (hX xs 0))) = P at *
      have hd : fv .f32 P / (1 / 2) = 2 * fv .f32 P := by
        have : fv .f32 P / (1 / 2) * (1 / 2) = fv .f32 P := Rat.div_mul_cancel (by grind)
        grind
      exact (fop_btw .quo rfl .f32 (a := 4) (b := 32) P0 hq.1 (fun _ => by rw [hq.2]; grind) (Rep.int (k := .f32) 4 (by decide)) (Rep.int (k := .f32) 32 (by decide)) (by simp only [ex]; rw [hq.2, hd]; grind) (by simp only [ex]; rw [hq.2, hd]; grind)).2.1
    have hh := hw 0 hj
    exact (cell_gain hq hT (H := hX xs 0) ⟨hh.1, hh.2.1, by grind⟩ ⟨inn.1, i1, i2⟩ ⟨out.1, by grind, by grind⟩).2.2 four (by have := o5 ew; grind) h.lo
end
end Go.Proofs.Ytjeeflldbhajiaa
set_option linter.unusedSimpArgs false
set_option linter.unusedVariables false
set_option linter.unusedSectionVars false
namespace Go.Proofs.Ytjeeflldbhajiaa
open Go Go.RowKit
section
variable {s : St} {a b c d p l : Int} {q t lw rw' : Nat} {xs : List Nat}
/-- The bound of heats after so many ticks. -/
def kW (b : Int) (k : Nat) : Rat := 8 * ((b : Rat) / 2) + (k : Rat) * tp (-15)
theorem kW_in {k : Nat} (hk : k ≤ 20) : 8 * ((b : Rat) / 2) ≤ kW b k ∧ kW b k ≤ 8 * ((b : Rat) / 2) + 1 / 100 := by
  have t15 : tp (-15) = 2 * tp (-16) := by
    have a1 := tp_succ (-16)
    rwa [show (-16 : Int) + 1 = -15 by omega] at a1
  have t16 := tp_n16
  have t160 := tp_pos (-16)
  have kb : (k : Rat) ≤ ((20 : Nat) : Rat) := by exact_mod_cast hk
  have k0 : (0 : Rat) ≤ (k : Rat) := by exact_mod_cast Nat.zero_le k
  have e : ((20 : Nat) : Rat) = 20 := rfl
  rw [e] at kb
  have m := Rat.mul_le_mul_of_nonneg_right kb (show 0 ≤ tp (-15) by grind)
  have m0 := Rat.mul_nonneg k0 (show 0 ≤ tp (-15) by grind)
  unfold kW
  constructor <;> grind
theorem kW_succ (k : Nat) : kW b k + tp (-15) = kW b (k + 1) := by
  have cc : ((k + 1 : Nat) : Rat) = (k : Rat) + 1 := Rat.natCast_add _ _
  unfold kW
  rw [cc]; grind
/-- A bar of such heats is valid. -/
theorem bar_okW (h : WB s a b c d p l q t lw) {k : Nat} (hk : k ≤ 20) (hw : HW l xs (kW b k)) (hn : 1 ≤ xs.length ∧ xs.length ≤ 48) : barOk s q xs = true := by
  have hK := kW_in (b := b) hk
  unfold barOk
  rw [h.tk.sv.ok, step_abv h.tk.he h.tk.hq, decide_eq_true hn.1, decide_eq_true hn.2, any_noneB fun j hj => ?_]
  · rfl
  · obtain ⟨u0, u1, u2⟩ := hw j hj
    obtain ⟨w0, _⟩ := warm_ex h.tk.sv (H := hX xs j) ⟨u0, u1, by grind⟩
    unfold badC
    have e1 : fin .f32 (cn .f32 (xs.getD j 0)) = true := by rw [fin_num]; exact u0
    have e2 : fin .f32 (warmC s.k (cn .f32 (xs.getD j 0))) = true := by rw [fin_num]; exact w0
    rw [e1, e2]; rfl
theorem run_warm (h : WB s a b c d p l q t lw) (hw : HW l xs (kW b 0)) : ∀ k : Nat, k ≤ 20 → (brX s q lw rw' true false t xs k).length = xs.length ∧ HW l (brX s q lw rw' true false t xs k) (kW b k)
  | 0, _ => ⟨rfl, hw⟩
  | k + 1, hk => by
    obtain ⟨e, ih⟩ := run_warm h hw k (by omega)
    have el : (brX s q lw rw' true false t xs (k + 1)).length = xs.length := (stbX_len true false lw rw').trans e
    refine ⟨el, fun j hj => ?_⟩
    have m := tick_warm (rw' := rw') h (kW_in (b := b) (k := k) (by omega)) ih (j := j) (by rw [e, ← el]; exact hj)
    rw [kW_succ] at m
    exact ⟨m.1, m.2.1, m.2.2.1⟩
/-- How great a part of a cell is molten. -/
theorem part_val (h : SV s a b c d p l) {H : Nat} (hH : fnt .f32 H = true ∧ 0 ≤ fv .f32 H) : ((l : Rat) / 2 < fv .f32 H → fv .f32 (partC s.k H) = 1) ∧ (fv .f32 H ≤ (l : Rat) / 2 → ∃ y, y * ((l : Rat) / 2) = fv .f32 H ∧ fv .f32 (partC s.k H) - y ≤ tp (-24) ∧ y - fv .f32 (partC s.k H) ≤ tp (-24) ∧ ((1 : Rat) / 512 ≤ y → (1 : Rat) / 512 ≤ fv .f32 (partC s.k H))) := by
  obtain ⟨_, _, _, _, _, ⟨l1, l2⟩⟩ := h.rat
  obtain ⟨h0, h1⟩ := hH
  have f1 : flt .f32 H (cn .f32 0) = false := by rw [fltv h0 V0.1, V0.2]; exact decide_eq_false (by grind)
  constructor
  · intro hl
    have f2 : fgt .f32 H s.k.l = true := by rw [fgtv h0 h.L.1, h.L.2]; exact decide_eq_true hl
    have e : partC s.k H = cn .f32 1065353216 := by unfold partC; rw [f1, f2]; rfl
    rw [e]; exact V1.2
  · intro hl
    have f2 : fgt .f32 H s.k.l = false := by rw [fgtv h0 h.L.1, h.L.2]; exact decide_eq_false (by grind)
    have e : partC s.k H = fop .quo .f32 H s.k.l := by unfold partC; rw [f1, f2]; rfl
    rw [e]
    have dv : fv .f32 H / ((l : Rat) / 2) * ((l : Rat) / 2) = fv .f32 H := Rat.div_mul_cancel (by grind)
    have y0 : 0 ≤ fv .f32 H / ((l : Rat) / 2) := mul_cancel_le (c := (l : Rat) / 2) (by grind) (by rw [dv]; grind)
    have y1 : fv .f32 H / ((l : Rat) / 2) ≤ 1 := mul_cancel_le (c := (l : Rat) / 2) (by grind) (by rw [dv]; grind)
    obtain ⟨A0, A1, A2⟩ := fop_q .quo rfl h0 h.L.1 (fun _ => by rw [h.L.2]; grind) 0 (by decide) (by simp only [ex]; rw [h.L.2, tp_zero]; grind) (by simp only [ex]; rw [h.L.2, tp_zero]; grind)
    simp only [ex] at A1 A2
    rw [h.L.2, show (0 : Int) - 24 = -24 by omega] at A1 A2
    refine ⟨_, dv, A1, A2, fun hy => ?_⟩
    have t9 : tp (-9) * 512 = 1 := by
      have h : tp (-9) * tp 9 = 1 := by rw [← tp_add]; exact tp_zero
      rwa [show tp 9 = 512 from (tp_nat 9).trans rfl] at h
    have e9 : (1 : Rat) / 512 = tp (-9) := by grind
    have r9 : Rep .f32 ((1 : Rat) / 512) := by rw [e9]; exact Rep.tp (-9) (by decide) (by decide)
    exact (fop_btw .quo rfl .f32 (a := 1 / 512) (b := 1) h0 h.L.1 (fun _ => by rw [h.L.2]; grind) r9 (Rep.int (k := .f32) 1 (by decide)) (by simp only [ex]; rw [h.L.2]; exact hy) (by simp only [ex]; rw [h.L.2]; exact y1)).2.1
/-- .. in a tick. -/
theorem part_keep (h : SV s a b c d p l) {H H' : Nat} (hH : fnt .f32 H = true ∧ 0 ≤ fv .f32 H) (hH' : fnt .f32 H' = true ∧ 0 ≤ fv .f32 H') (k1 : fv .f32 H ≤ (l : Rat) / 2 → fv .f32 H ≤ fv .f32 H') (k2 : (l : Rat) / 2 < fv .f32 H → (l : Rat) / 2 - tp (-16) ≤ fv .f32 H') : fv .f32 (partC s.k H) - 3 * tp (-16) ≤ fv .f32 (partC s.k H') := by
  obtain ⟨_, _, _, _, _, ⟨l1, l2⟩⟩ := h.rat
  obtain ⟨a1, a2⟩ := part_val h hH
  obtain ⟨b1, b2⟩ := part_val h hH'
  obtain ⟨_, _, p2⟩ := part_in h hH.1
  have t16 := tp_n16
  have t160 := tp_pos (-16)
  have t24 : tp (-24) * 256 = tp (-16) := by
    have h : tp (-16) = tp (-24) * tp 8 := by rw [← tp_add]; rfl
    rw [h, show tp 8 = 256 from (tp_nat 8).trans rfl]
  by_cases hl' : (l : Rat) / 2 < fv .f32 H'
  · rw [b1 hl']; grind
  · obtain ⟨y', e', c1, c2, _⟩ := b2 (by grind)
    by_cases hl : (l : Rat) / 2 < fv .f32 H
    · rw [a1 hl]
      have := k2 hl
      have : 1 - 2 * tp (-16) ≤ y' := by
        refine mul_cancel_le (c := (l : Rat) / 2) (by grind) ?_
        rw [e']
        have := Rat.mul_le_mul_of_nonneg_right (show (1 : Rat) / 2 ≤ (l : Rat) / 2 by grind) (Rat.le_of_lt t160)
        grind
      grind
    · obtain ⟨y, e, d1, d2, _⟩ := a2 (by grind)
      have := k1 (by grind)
      have : y ≤ y' := mul_cancel_le (c := (l : Rat) / 2) (by grind) (by rw [e, e']; exact this)
      grind
/-- Sums of parts. -/
theorem acc_in (h : SV s a b c d p l) (hw : ∀ j, j < xs.length → fnt .f32 (hX xs j) = true) (hn : xs.length ≤ 48) : ∀ k, k ≤ xs.length → Btw .f32 (accC (partC s.k) (xs.take k)) 0 ((k : Nat) : Rat)
  | 0, _ => by
    have z : ((0 : Nat) : Rat) = 0 := rfl
    rw [z]
    exact ⟨V0.1, by show (0 : Rat) ≤ fv .f32 (cn .f32 0); rw [V0.2]; decide, by show fv .f32 (cn .f32 0) ≤ (0 : Rat); rw [V0.2]; decide⟩
  | k + 1, hk => by
    rw [accC_step _ _ (show k < xs.length by omega)]
    obtain ⟨a0, a1, a2⟩ := acc_in h hw hn k (by omega)
    obtain ⟨p0, p1, p2⟩ := part_in h (hw k (by omega))
    have cc : ((k + 1 : Nat) : Rat) = (k : Rat) + 1 := Rat.natCast_add _ _
    have p1' : 0 ≤ fv .f32 (partC s.k (cn .f32 (xs.getD k 0))) := p1
    have p2' : fv .f32 (partC s.k (cn .f32 (xs.getD k 0))) ≤ 1 := p2
    refine fop_btw .add rfl .f32 a0 p0 (by simp) (Rep.int (k := .f32) 0 (by decide)) (Rep.nat _ (by show _ < 2 ^ (23 + 1); omega)) ?_ ?_
    · simp only [ex]; show (0 : Rat) ≤ _; grind
    · simp only [ex]; rw [cc]; grind
theorem acc_up (h : SV s a b c d p l) (hw : ∀ j, j < xs.length → fnt .f32 (hX xs j) = true) (hn : xs.length ≤ 48) (h0 : (1 : Rat) / 512 ≤ fv .f32 (partC s.k (hX xs 0))) : ∀ k, k + 1 ≤ xs.length → (1 : Rat) / 512 ≤ fv .f32 (accC (partC s.k) (xs.take (k + 1)))
  | k, hk => by
    have t9 : tp (-9) * 512 = 1 := by
      have h : tp (-9) * tp 9 = 1 := by rw [← tp_add]; exact tp_zero
      rwa [show tp 9 = 512 from (tp_nat 9).trans rfl] at h
    have e9 : (1 : Rat) / 512 = tp (-9) := by grind
    have r9 : Rep .f32 ((1 : Rat) / 512) := by rw [e9]; exact Rep.tp (-9) (by decide) (by decide)
    rw [accC_step _ _ (show k < xs.length by omega)]
    obtain ⟨a0, a1, a2⟩ := acc_in h hw hn k (by omega)
    obtain ⟨p0, p1, p2⟩ := part_in h (hw k (by omega))
    have kb : (k : Rat) ≤ ((48 : Nat) : Rat) := by exact_mod_cast (show k ≤ 48 by omega)
    have e48 : ((48 : Nat) : Rat) = 48 := rfl
    rw [e48] at kb
    have up : (1 : Rat) / 512 ≤ fv .f32 (accC (partC s.k) (xs.take k)) + fv .f32 (partC s.k (cn .f32 (xs.getD k 0))) := by
      have p1' : 0 ≤ fv .f32 (partC s.k (cn .f32 (xs.getD k 0))) := p1
      cases k with
      | zero => have : (1 : Rat) / 512 ≤ fv .f32 (partC s.k (cn .f32 (xs.getD 0 0))) := h0; grind
      | succ k => have := acc_up h hw hn h0 k (by omega); grind
    have p2' : fv .f32 (partC s.k (cn .f32 (xs.getD k 0))) ≤ 1 := p2
    exact (fop_btw .add rfl .f32 (b := 64) a0 p0 (by simp) r9 (Rep.int (k := .f32) 64 (by decide)) (by simp only [ex]; exact up) (by simp only [ex]; grind)).2.1
theorem acc_keep (h : SV s a b c d p l) {ys : List Nat} (e : ys.length = xs.length) (hw : ∀ j, j < xs.length → fnt .f32 (hX xs j) = true) (hw' : ∀ j, j < xs.length → fnt .f32 (hX ys j) = true) (hn : xs.length ≤ 7) (hk : ∀ j, j < xs.length → fv .f32 (partC s.k (hX xs j)) - 3 * tp (-16) ≤ fv .f32 (partC s.k (hX ys j))) : ∀ k, k ≤ xs.length → fv .f32 (accC (partC s.k) (xs.take k)) - (k : Rat) * (4 * tp (-16)) ≤ fv .f32 (accC (partC s.k) (ys.take k))
  | 0, _ => by
    have z : ((0 : Nat) : Rat) = 0 := rfl
    have e0 : xs.take 0 = ys.take 0 := rfl
    rw [z, e0]; grind
  | k + 1, hk1 => by
    rw [accC_step _ _ (show k < xs.length by omega), accC_step _ _ (show k < ys.length by omega)]
    obtain ⟨a0, a1, a2⟩ := acc_in h hw (by omega) k (by omega)
    obtain ⟨p0, p1, p2⟩ := part_in h (hw k (by omega))
    obtain ⟨b0, b1, b2⟩ := acc_in (xs := ys) h (fun j hj => hw' j (by omega)) (by omega) k (by omega)
    obtain ⟨q0, q1, q2⟩ := part_in h (hw' k (by omega))
    have ih := acc_keep h e hw hw' hn hk k (by omega)
    have kp := hk k (by omega)
    have ex1 : hX xs k = cn .f32 (xs.getD k 0) := rfl
    have ex2 : hX ys k = cn .f32 (ys.getD k 0) := rfl
    rw [ex1] at p0 p1 p2 kp
    rw [ex2] at q0 q1 q2 kp
    have kb : (k : Rat) ≤ ((6 : Nat) : Rat) := by exact_mod_cast (show k ≤ 6 by omega)
    have e6 : ((6 : Nat) : Rat) = 6 := rfl
    rw [e6] at kb
    have tp3 : tp 3 = 8 := (tp_nat 3).trans rfl
    have t16 := tp_n16
    have t160 := tp_pos (-16)
    have t21 : tp (-21) * 32 = tp (-16) := by
      have h : tp (-16) = tp (-21) * tp 5 := by rw [← tp_add]; rfl
      rw [h, show tp 5 = 32 from (tp_nat 5).trans rfl]
    obtain ⟨_, n1, n2⟩ := fop_q .add rfl a0 p0 (by simp) 3 (by decide) (by simp only [ex]; rw [tp3]; grind) (by simp only [ex]; rw [tp3]; grind)
    obtain ⟨_, m1, m2⟩ := fop_q .add rfl b0 q0 (by simp) 3 (by decide) (by simp only [ex]; rw [tp3]; grind) (by simp only [ex]; rw [tp3]; grind)
    simp only [ex] at n1 n2 m1 m2
    rw [show (3 : Int) - 24 = -21 by omega] at n1 n2 m1 m2
    have cc : ((k + 1 : Nat) : Rat) = (k : Rat) + 1 := Rat.natCast_add _ _
    rw [cc]
    grind
end
end Go.Proofs.Ytjeeflldbhajiaa
set_option linter.unusedSimpArgs false
set_option linter.unusedVariables false
set_option linter.unusedSectionVars false
namespace Go.Proofs.Ytjeeflldbhajiaa
open Go Go.RowKit
section
variable {s : St} {a b c d p l : Int} {q t lw rw' : Nat} {xs : List Nat}
theorem HW.nums {K : Rat} (h : HW l xs K) : ∀ j, j < xs.length → fnt .f32 (hX xs j) = true := fun j hj => (h j hj).1
theorem melt_val (h : WB s a b c d p l q t lw) (hw : ∀ j, j < xs.length → fnt .f32 (hX xs j) = true) (hn : xs.length ≤ 7) : Nr (meltB s q xs) (fv .f32 (accC (partC s.k) xs) / 2) (tp (-22)) := by
  have A := acc_in h.tk.sv hw (by omega) xs.length (Nat.le_refl _)
  rw [List.take_length] at A
  obtain ⟨a0, a1, a2⟩ := A
  have kb : (xs.length : Rat) ≤ ((7 : Nat) : Rat) := by exact_mod_cast hn
  have e7 : ((7 : Nat) : Rat) = 7 := rfl
  rw [e7] at kb
  have hq := h.half
  have tp2 : tp 2 = 4 := (tp_nat 2).trans rfl
  have e : ex .mul (fv .f32 (accC (partC s.k) xs)) (fv .f32 (cn .f32 q)) = fv .f32 (accC (partC s.k) xs) / 2 := by simp only [ex]; rw [hq.2]; grind
  have := fop_q .mul rfl a0 hq.1 (by simp) 2 (by decide) (by rw [e, tp2]; grind) (by rw [e, tp2]; grind)
  rw [e, show (2 : Int) - 24 = -22 by omega] at this
  exact this
theorem run_okW (h : WB s a b c d p l q t lw) (hw : HW l xs (kW b 0)) (hn : 1 ≤ xs.length ∧ xs.length ≤ 7) : ∀ k, k ≤ 20 → brU s q lw rw' true false t xs k = true
  | 0, _ => rfl
  | k + 1, hk => by
    have ih := run_okW h hw hn k (by omega)
    obtain ⟨e, hw1⟩ := run_warm (rw' := rw') h hw (k + 1) hk
    have ok : brM s q lw rw' true false t xs k = true := bar_okW h hk hw1 (by rw [e]; omega)
    have mf : fin .f32 (brH s q lw rw' true false t xs (k + 1)) = true := by
      rw [fin_num]
      exact (melt_val h hw1.nums (by rw [e]; exact hn.2)).1
    simp only [brU]
    rw [ih, ok, mf]; rfl
theorem canW (h : WB s a b c d p l q t lw) (hw : HW l xs (kW b 0)) (hn : 1 ≤ xs.length ∧ xs.length ≤ 7) (hr : fin .f32 (cn .f32 rw') = true) : canB s q xs lw rw' t = true := by
  obtain ⟨⟨m0, _, _⟩, _⟩ := most_val h.tk.sv h.tk.he h.tk.hq
  have fm : fin .f32 (mostV s q) = true := by rw [fin_num]; exact m0
  have fl : fin .f32 (cn .f32 lw) = true := by rw [fin_num]; exact h.lv.1
  have le : fle .f32 (cn .f32 t) (mostV s q) = true := by rw [flev h.tk.hT m0]; exact decide_eq_true h.tk.t1
  unfold canB
  rw [bar_okW h (by decide) hw ⟨hn.1, by omega⟩, fm, fl, hr, abv_of h.tk.hT h.tk.t0, le]; rfl
/-- What is molten, tick by tick. -/
theorem melt_keep (h : WB s a b c d p l q t lw) (hw : HW l xs (kW b 0)) (hn : 1 ≤ xs.length ∧ xs.length ≤ 7) {k : Nat} (hk : k + 1 ≤ 20) : fnt .f32 (brH s q lw rw' true false t xs k) = true ∧ fnt .f32 (brH s q lw rw' true false t xs (k + 1)) = true ∧ fv .f32 (brH s q lw rw' true false t xs k) - 1 / 1024 ≤ fv .f32 (brH s q lw rw' true false t xs (k + 1)) ∧ 0 < fv .f32 (brH s q lw rw' true false t xs (k + 1)) := by
  obtain ⟨e, hwk⟩ := run_warm (rw' := rw') h hw k (by omega)
  obtain ⟨e1, hw1⟩ := run_warm (rw' := rw') h hw (k + 1) hk
  have step : brX s q lw rw' true false t xs (k + 1) = stbX s q (brX s q lw rw' true false t xs k) lw rw' true false t := rfl
  have tick := fun j hj => tick_warm (rw' := rw') h (kW_in (b := b) (k := k) (by omega)) hwk (j := j) hj
  rw [← step] at tick
  have m0 := melt_val h hwk.nums (by rw [e]; exact hn.2)
  have m1 := melt_val h hw1.nums (by rw [e1]; exact hn.2)
  unfold brH
  generalize brX s q lw rw' true false t xs k = ys at *
  generalize brX s q lw rw' true false t xs (k + 1) = zs at *
  have el : zs.length = ys.length := by rw [e, e1]
  have t16 := tp_n16
  have t160 := tp_pos (-16)
  have t22 : tp (-22) * 64 = tp (-16) := by
    have h : tp (-16) = tp (-22) * tp 6 := by rw [← tp_add]; rfl
    rw [h, show tp 6 = 64 from (tp_nat 6).trans rfl]
  have keep := acc_keep h.tk.sv el hwk.nums (fun j hj => hw1.nums j (by omega)) (by omega) (fun j hj => part_keep h.tk.sv ⟨(hwk j hj).1, (hwk j hj).2.1⟩ ⟨(tick j hj).1, (tick j hj).2.1⟩ (tick j hj).2.2.2.1 (tick j hj).2.2.2.2.1) ys.length (Nat.le_refl _)
  rw [List.take_length, List.take_of_length_le (by omega)] at keep
  have kb : (ys.length : Rat) ≤ ((7 : Nat) : Rat) := by exact_mod_cast (show ys.length ≤ 7 by omega)
  have e7 : ((7 : Nat) : Rat) = 7 := rfl
  rw [e7] at kb
  have mk := Rat.mul_le_mul_of_nonneg_right kb (show 0 ≤ 4 * tp (-16) by grind)
  -- the first cell
  obtain ⟨_, _, _, _, _, ⟨l1, l2⟩⟩ := h.tk.sv.rat
  have g0 := (tick 0 (by omega)).2.2.2.2.2 rfl
  have u0 : (1 : Rat) / 512 ≤ fv .f32 (partC s.k (hX zs 0)) := by
    obtain ⟨a1, a2⟩ := part_val h.tk.sv (H := hX zs 0) ⟨(hw1 0 (by omega)).1, (hw1 0 (by omega)).2.1⟩
    by_cases hl : (l : Rat) / 2 < fv .f32 (hX zs 0)
    · rw [a1 hl]; grind
    · obtain ⟨y, ey, _, _, hy⟩ := a2 (by grind)
      refine hy (mul_cancel_le (c := (l : Rat) / 2) (by grind) ?_)
      rw [ey]; grind
  have up := acc_up h.tk.sv hw1.nums (by omega) u0 (zs.length - 1) (by omega)
  rw [List.take_of_length_le (by omega)] at up
  obtain ⟨m00, m01, m02⟩ := m0
  obtain ⟨m10, m11, m12⟩ := m1
  exact ⟨m00, m10, by grind, by grind⟩
end
/-- 0.001 in 64 bits. -/
theorem cMil_lt : V .f64 (cn .f64 4562254508917369340) (fv .f64 (cn .f64 4562254508917369340)) ∧ (1 : Rat) / 1024 ≤ fv .f64 (cn .f64 4562254508917369340) := by
  have h1 : fnt .f64 (cn .f64 4562254508917369340) = true := by decide +kernel
  refine ⟨⟨h1, rfl⟩, ?_⟩
  have o := V.int .f64 1 (by decide)
  have h1024 := V.int .f64 1024 (by decide)
  have e1 : ex .quo ((1 : Int) : Rat) ((1024 : Int) : Rat) = 1 / 1024 := by
    have a1 : ((1 : Int) : Rat) = 1 := rfl
    have a2 : ((1024 : Int) : Rat) = 1024 := rfl
    simp only [ex]; rw [a1, a2]
  have t10 : tp (-10) * 1024 = 1 := by
    have h : tp (-10) * tp 10 = 1 := by rw [← tp_add]; exact tp_zero
    rwa [show tp 10 = 1024 from (tp_nat 10).trans rfl] at h
  have r : Rep .f64 ((1 : Rat) / 1024) := by
    have e10 : (1 : Rat) / 1024 = tp (-10) := by grind
    rw [e10]; exact Rep.tp (-10) (by decide) (by decide)
  have Q := V.op .quo rfl o h1024 (fun _ => by have a2 : ((1024 : Int) : Rat) = 1024 := rfl; rw [a2]; decide) (by rw [e1]; exact r)
  rw [e1] at Q
  have h2 : fle .f64 (fop .quo .f64 (floatOfInt .f64 1) (floatOfInt .f64 1024)) (cn .f64 4562254508917369340) = true := by decide +kernel
  rw [flev Q.1 h1, Q.2] at h2
  exact of_decide_eq_true h2
/-- The law's comparison. -/
theorem less_mil {x y : Nat} (hx : fnt .f32 x = true) (hy : fnt .f32 y = true) (h : fv .f32 x - 1 / 1024 ≤ fv .f32 y) (hb : Bnd .f32 x 128) : flt .f64 (wide y) (fop .sub .f64 (wide x) (cn .f64 4562254508917369340)) = false := by
  obtain ⟨v, e⟩ := cMil_lt
  obtain ⟨x0, x1⟩ := wide_val hx
  obtain ⟨y0, y1⟩ := wide_val hy
  have t20 : tp 20 = 1048576 := (tp_nat 20).trans rfl
  have c1 : fv .f64 (cn .f64 4562254508917369340) ≤ 1 := by
    have o := V.int .f64 1 (by decide)
    have h2 : fle .f64 (cn .f64 4562254508917369340) (floatOfInt .f64 1) = true := by decide +kernel
    rw [flev v.1 o.1, o.2] at h2
    exact of_decide_eq_true h2
  obtain ⟨d0, d1⟩ := fop_rnd .sub rfl .f64 x0 v.1 (by simp) 20 (by decide) (by simp only [ex]; rw [x1, t20]; have := hb.2.2; grind) (by simp only [ex]; rw [x1, t20]; have := hb.2.1; grind)
  simp only [ex] at d1
  obtain ⟨z, f, p1, p2, p3⟩ := rp_word y0
  have := d1.le p1 p2 (by rw [← p3, x1, y1]; grind)
  rw [← p3] at this
  rw [fltv y0 d0]
  exact decide_eq_false (by grind)
end Go.Proofs.Ytjeeflldbhajiaa
set_option linter.unusedSimpArgs false
set_option linter.unusedVariables false
set_option linter.unusedSectionVars false
namespace Go.Proofs.Ytjeeflldbhajiaa
open Go Go.RowKit
/-- All about a warmed bar of n cells. -/
structure WA (s : St) (n : Nat) (t lw : Nat) : Prop where
  ev : evenOk s (n : Int) 1056964608 s.p 0 = true
  ln : (evenX s (n : Int) s.p 0).length = n
  bok : barOk s 1056964608 (evenX s (n : Int) s.p 0) = true
  mf : fnt .f32 (mostV s 1056964608) = true
  run : brB s 1056964608 lw 0 true false t (evenX s (n : Int) s.p 0) (20 : Nat) = true
  len : (brX s 1056964608 lw 0 true false t (evenX s (n : Int) s.p 0) 20).length = n
  mel : ∀ k, k ≤ 20 → fnt .f32 (brH s 1056964608 lw 0 true false t (evenX s (n : Int) s.p 0) k) = true
  pos : fle .f32 (brH s 1056964608 lw 0 true false t (evenX s (n : Int) s.p 0) 20) (cn .f32 0) = false
  up : ∀ k, k + 1 ≤ 20 → flt .f64 (wide (brH s 1056964608 lw 0 true false t (evenX s (n : Int) s.p 0) (k + 1))) (fop .sub .f64 (wide (brH s 1056964608 lw 0 true false t (evenX s (n : Int) s.p 0) k)) (cn .f64 4562254508917369340)) = false
  fr : frontsOk s 1056964608 (brX s 1056964608 lw 0 true false t (evenX s (n : Int) s.p 0) 20) = true
  ff : ∀ y ∈ frontsL s 1056964608 (brX s 1056964608 lw 0 true false t (evenX s (n : Int) s.p 0) 20) (n - 1), fnt .f32 y = true ∧ flt .f32 y (cn .f32 0) = false ∧ fgt .f64 (wide y) (fop .mul .f64 (cn .f64 4602678819172646912) (cn .f64 (floatOfInt .f64 (n : Int)))) = false
theorem half64 : V .f64 (cn .f64 4602678819172646912) ((1 : Rat) / 2) := by
  have o := V.int .f64 1 (by decide)
  have h2 := V.int .f64 2 (by decide)
  have e1 : ex .quo ((1 : Int) : Rat) ((2 : Int) : Rat) = 1 / 2 := by
    have a1 : ((1 : Int) : Rat) = 1 := rfl
    have a2 : ((2 : Int) : Rat) = 2 := rfl
    simp only [ex]; rw [a1, a2]
  have t1 : tp (-1) * 2 = 1 := tp_n1
  have r : Rep .f64 ((1 : Rat) / 2) := by
    have e10 : (1 : Rat) / 2 = tp (-1) := by grind
    rw [e10]; exact Rep.tp (-1) (by decide) (by decide)
  have Q := V.op .quo rfl o h2 (fun _ => by have a2 : ((2 : Int) : Rat) = 2 := rfl; rw [a2]; decide) (by rw [e1]; exact r)
  rw [e1] at Q
  have e : cn .f64 4602678819172646912 = fop .quo .f64 (floatOfInt .f64 1) (floatOfInt .f64 2) := by decide +kernel
  rw [e]; exact Q
section
variable {s : St} {a b c d p l : Int} {n t lw : Nat}
theorem wb_of (h : SV s a b c d p l) (ht : cn .f32 t = mostV s 1056964608) (hlw : cn .f32 lw = fop .add .f32 (cn .f32 s.p) (cn .f32 1090519040)) : WB s a b c d p l 1056964608 t lw := by
  have hb := h.bd
  have hq : V .f32 (cn .f32 1056964608) (((2 : Int) : Rat) / 4) := by
    have e : ((2 : Int) : Rat) / 4 = 1 / 2 := by have : ((2 : Int) : Rat) = 2 := rfl; rw [this]; grind
    rw [e]; exact vHalf
  obtain ⟨⟨m0, m1, m2⟩, _⟩ := most_val h ⟨by decide, by decide⟩ hq
  have v8 : V .f32 (cn .f32 1090519040) ((8 : Int) : Rat) := by
    have e8 : cn .f32 1090519040 = floatOfInt .f32 8 := by decide +kernel
    rw [e8]; exact V.int .f32 8 (by decide)
  have s0 : ex .add (p : Rat) ((8 : Int) : Rat) = ((p + 8 : Int) : Rat) := by simp only [ex]; rw [Rat.intCast_add]
  have A := V.op .add rfl h.P v8 (by simp) (by rw [s0]; exact rep_int (by omega))
  have s1 : ex .add (p : Rat) ((8 : Int) : Rat) = (p : Rat) + 8 := by simp only [ex]; have : ((8 : Int) : Rat) = 8 := rfl; rw [this]
  rw [s1] at A
  refine ⟨⟨h, ⟨by decide, by decide⟩, hq, by rw [ht]; exact m0, by rw [ht]; grind, by rw [ht]; exact Rat.le_refl⟩, by rw [ht]; exact m1, by rw [ht]; exact m2, by rw [hlw]; exact A⟩
theorem even_zero (h : SV s a b c d p l) : V .f32 (evenH s s.p 0) 0 := by
  have e : evenH s s.p 0 = fop .mul .f32 (cn .f32 0) s.k.l := by
    unfold evenH heatC
    rw [show cn .f32 s.p = s.k.p from rfl, fltv h.P.1 h.P.1, fgtv h.P.1 h.P.1, decide_eq_false (by grind : ¬ fv .f32 s.k.p < fv .f32 s.k.p)]
    rfl
  have s1 : ex .mul 0 ((l : Rat) / 2) = 0 := by simp only [ex]; grind
  have A := V.op .mul rfl V0 h.L (by simp) (by rw [s1]; exact Rep.int (k := .f32) 0 (by decide))
  rw [s1] at A
  rw [e]; exact A
theorem wa_of (h : SV s a b c d p l) (hn : 2 ≤ n ∧ n ≤ 7) (ht : cn .f32 t = mostV s 1056964608) (hlw : cn .f32 lw = fop .add .f32 (cn .f32 s.p) (cn .f32 1090519040)) : WA s n t lw := by
  have hb := h.bd
  have w := wb_of h ht hlw
  have hq := w.half
  obtain ⟨_, ⟨b1, b2⟩, _, _, ⟨p1, p2⟩, ⟨l1, l2⟩⟩ := h.rat
  obtain ⟨⟨m0, m1, m2⟩, _⟩ := most_val h w.tk.he w.tk.hq
  have zh := even_zero h
  obtain ⟨xs, hxs⟩ : ∃ xs, evenX s (n : Int) s.p 0 = xs := ⟨_, rfl⟩
  have xl : xs.length = n := by rw [← hxs]; simp [evenX]
  have hX0 : ∀ j, j < xs.length → V .f32 (hX xs j) 0 := fun j hj => by
    have : xs.getD j 0 = evenH s s.p 0 := by
      rw [← hxs] at hj ⊢
      unfold evenX at hj ⊢
      rw [List.length_replicate] at hj
      rw [List.getD_eq_getElem?_getD, List.getElem?_replicate, if_pos hj]; rfl
    unfold hX
    rw [this]; exact zh.cn
  have hw : HW l xs (kW b 0) := fun j hj => by
    have v := hX0 j hj
    have k := (kW_in (b := b) (k := 0) (by decide)).1
    exact ⟨v.1, by rw [v.2]; exact Rat.le_refl, by rw [v.2]; grind⟩
  have hn7 : 1 ≤ xs.length ∧ xs.length ≤ 7 := by omega
  have bok : barOk s 1056964608 xs = true := bar_okW w (by decide) hw ⟨hn7.1, by omega⟩
  obtain ⟨rl, rw20⟩ := run_warm (rw' := 0) w hw 20 (by decide)
  have mel : ∀ k, k ≤ 20 → fnt .f32 (brH s 1056964608 lw 0 true false t xs k) = true := fun k hk => by
    obtain ⟨e, hk2⟩ := run_warm (rw' := 0) w hw k hk
    exact (melt_val w hk2.nums (by rw [e]; exact hn7.2)).1
  have melb : ∀ k, k ≤ 20 → Bnd .f32 (brH s 1056964608 lw 0 true false t xs k) 128 := fun k hk => by
    obtain ⟨e, hk2⟩ := run_warm (rw' := 0) w hw k hk
    obtain ⟨m, m1, m2⟩ := melt_val w hk2.nums (by rw [e]; exact hn7.2)
    have A := acc_in w.tk.sv hk2.nums (by rw [e]; omega) _ (Nat.le_refl _)
    rw [List.take_length, e] at A
    obtain ⟨_, a1, a2⟩ := A
    have kb : (xs.length : Rat) ≤ ((7 : Nat) : Rat) := by exact_mod_cast hn7.2
    have e7 : ((7 : Nat) : Rat) = 7 := rfl
    rw [e7] at kb
    have t22 : tp (-22) ≤ tp 0 := tp_le (by decide)
    rw [tp_zero] at t22
    exact ⟨m, by show _ ≤ fv .f32 (meltB _ _ _); grind, by show fv .f32 (meltB _ _ _) ≤ _; grind⟩
  have parts : ∀ j, j < (brX s 1056964608 lw 0 true false t xs 20).length → Btw .f32 (partC s.k (cn .f32 ((brX s 1056964608 lw 0 true false t xs 20).getD j 0))) 0 1 := fun j hj => part_in h (rw20 j hj).1
  have frs : ∀ y ∈ frontsL s 1056964608 (brX s 1056964608 lw 0 true false t xs 20) (n - 1), Btw .f32 y 0 (((2 * (n - 1) + 1 : Nat) : Rat) / 4) := fronts_in parts hq (n - 1) (by rw [rl]; omega) (by omega)
  have ok20 := bar_okW w (Nat.le_refl 20) rw20 (by rw [rl]; omega)
  have can := canW w hw hn7 (rw' := 0) V0.fin
  have run := run_okW (rw' := 0) w hw hn7 20 (Nat.le_refl _)
  have keep := fun k hk => melt_keep (rw' := 0) w hw hn7 (k := k) hk
  refine ⟨?_, by rw [hxs]; exact xl, by rw [hxs]; exact bok, m0, ?_, by rw [hxs]; exact rl.trans xl, by rw [hxs]; exact mel, ?_, ?_, ?_, ?_⟩
  · rw [← hxs] at bok
    have e0 : shr (cn .f32 0) = true := by decide +kernel
    have eb : inB (n : Int) 1 48 = true := by unfold inB; rw [decide_eq_true (by omega), decide_eq_true (by omega)]; rfl
    have ep : fin .f32 (cn .f32 s.p) = true := V.fin h.P
    unfold evenOk okFor
    rw [h.ok, ep, e0, eb, bok]; rfl
  · rw [hxs]
    unfold brB brPre
    have e20 : ((20 : Nat) : Int).toNat = 20 := rfl
    rw [can, e20, run]
    decide
  · rw [hxs, flev (mel 20 (Nat.le_refl _)) V0.1, V0.2]
    have := (keep 19 (by decide)).2.2.2
    exact decide_eq_false (by grind)
  · intro k hk
    rw [hxs]
    obtain ⟨k1, k2, k3, _⟩ := keep k hk
    exact less_mil k1 k2 k3 (melb k (by omega))
  · rw [hxs]
    unfold frontsOk
    rw [ok20, rl, xl]
    have : (frontsL s 1056964608 (brX s 1056964608 lw 0 true false t xs 20) (n - 1)).any (fun x => !fin .f32 x) = false := by
      rw [List.any_eq_false]
      intro y hy
      have e : fin .f32 y = true := by rw [fin_num]; exact (frs y hy).1
      rw [e]; simp
    rw [this]; rfl
  · intro y hy
    rw [hxs] at hy
    obtain ⟨f0, f1, f2⟩ := frs y hy
    refine ⟨f0, by rw [fltv f0 V0.1, V0.2]; exact decide_eq_false (by grind), ?_⟩
    obtain ⟨y0, y1⟩ := wide_val f0
    have kn : V .f64 (cn .f64 (floatOfInt .f64 (n : Int))) ((n : Int) : Rat) := (V.int .f64 (n : Int) (show (n : Int).natAbs < 9007199254740992 by omega)).cn
    have u1 : ((2 * (n - 1) + 1 : Nat) : Rat) ≤ ((2 * n : Nat) : Rat) := by exact_mod_cast (by omega : 2 * (n - 1) + 1 ≤ 2 * n)
    have u2 : ((2 * n : Nat) : Rat) = 2 * (n : Rat) := by rw [Rat.natCast_mul]; rfl
    have cN : ((n : Int) : Rat) = (n : Rat) := Rat.intCast_natCast n
    rw [cN] at kn
    have kb : (n : Rat) ≤ ((7 : Nat) : Rat) := by exact_mod_cast hn.2
    have e7 : ((7 : Nat) : Rat) = 7 := rfl
    rw [e7] at kb
    have k0 : (0 : Rat) ≤ (n : Rat) := by exact_mod_cast Nat.zero_le n
    have t20 : tp 20 = 1048576 := (tp_nat 20).trans rfl
    obtain ⟨d0, d1⟩ := fop_rnd .mul rfl .f64 half64.1 kn.1 (by simp) 20 (by decide) (by simp only [ex]; rw [half64.2, kn.2, t20]; grind) (by simp only [ex]; rw [half64.2, kn.2, t20]; grind)
    simp only [ex] at d1
    rw [half64.2, kn.2] at d1
    obtain ⟨z, f, p1, p2, p3⟩ := rp_word y0
    have := d1.ge p1 p2 (by rw [← p3, y1]; grind)
    rw [← p3] at this
    rw [fgtv y0 d0]
    exact decide_eq_false (by grind)
end
end Go.Proofs.Ytjeeflldbhajiaa
