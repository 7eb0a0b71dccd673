/-
  Drawn stuffs, on: the heat that a warmth and a part come to; how easily heat flows. No condition but what each law says.
-/
import Derived.Test.YtiodpahbmoeiaaaStX
set_option linter.unusedSimpArgs false
set_option linter.unusedVariables false
set_option linter.unusedSectionVars false
namespace Go.Proofs.Ytiodpahbmoeiaaa
open Go Go.RowKit
section
variable {s : St} {a b c d p l k : Int} {H : Nat}
theorem heat_back (h : SV s a b c d p l) (hH : V .f32 H ((k : Rat) / 4)) (hk : -48 ≤ k ∧ k ≤ 84) : Nr (heatC s.k (warmC s.k H) (partC s.k H)) ((k : Rat) / 4) (16 * tp (-17)) := by
  have hb := h.bd
  have v0 := hv_of h hH hk
  obtain ⟨E1, E2⟩ := E_small
  have hlt : flt .f32 (warmC s.k H) s.k.p = decide (fv .f32 (warmC s.k H) < fv .f32 s.k.p) := fltv v0.fW h.P.1
  have hgt : fgt .f32 (warmC s.k H) s.k.p = decide (fv .f32 s.k.p < fv .f32 (warmC s.k H)) := fgtv v0.fW h.P.1
  rcases heat_ways k l with hw | hw | hw
  · obtain ⟨e1, e2⟩ := warm_low (s := s) hH hw
    have x1 := (v0.sg.1).2 hw
    rw [decide_eq_true x1] at hlt
    unfold heatC
    rw [if_pos hlt, e1]
    obtain ⟨g1, g2, g3, g4⟩ := wrm_cut h.P hb.2.2.2.2.1 hH h.A hb.1 (by omega)
    obtain ⟨r0, r1, r2⟩ := back_nr h.P hb.2.2.2.2.1 h.A hb.1 (by omega) g4
    exact ⟨r0, by grind, by grind⟩
  · obtain ⟨e1, e2⟩ := warm_mid h hH hw.1 hw.2
    rw [e1] at hlt hgt
    rw [decide_eq_false (by grind)] at hlt hgt
    unfold heatC
    rw [e1, if_neg (by rw [hlt]; simp), if_neg (by rw [hgt]; simp), e2]
    obtain ⟨g1, g2, g3, g0, n1, n2⟩ := quo_cut hH h.L (by omega) (by omega)
    obtain ⟨t1, t2, t3⟩ := part_cut h hH hw
    have l1 : (1 : Rat) ≤ (l : Rat) := icast_le hb.2.2.2.2.2.1
    have l2 : (l : Rat) ≤ 16 := icast_le hb.2.2.2.2.2.2
    have e : (((k : Rat) / 4) / ((l : Rat) / 2)) * (l : Rat) = (k : Rat) / 2 := by grind
    generalize (((k : Rat) / 4) / ((l : Rat) / 2)) = x at e n1 n2
    generalize fop .quo .f32 H s.k.l = T at n1 n2 t1 t2 t3 ⊢
    have hbm := mul_bd (a := tp (-17)) (b := 8) (x := fv .f32 T - x) (y := (l : Rat) / 2) (by grind) (by grind) (by grind) (by grind)
    have e3 : fv .f32 T * ((l : Rat) / 2) = (k : Rat) / 4 + (fv .f32 T - x) * ((l : Rat) / 2) := by grind
    have k1 : (k : Rat) ≤ ((84 : Int) : Rat) := icast_le hk.2
    have k2 : ((-48 : Int) : Rat) ≤ (k : Rat) := icast_le hk.1
    have M := fop_nr .mul rfl t1 h.L.1 (by simp) (by simp only [ex]; rw [h.L.2]; grind) (by simp only [ex]; rw [h.L.2]; grind)
    simp only [ex] at M
    rw [h.L.2] at M
    obtain ⟨f0, f1, f2⟩ := M
    exact ⟨f0, by grind, by grind⟩
  · obtain ⟨e1, e2, e3⟩ := warm_high h hH hw (by omega)
    obtain ⟨g1, g2, g3, g4⟩ := wrm_cut h.P hb.2.2.2.2.1 e3 h.B hb.2.1 (by omega)
    have u := g2 1 (by omega) (by decide)
    have e := p1_16
    rw [e1, h.P.2] at hlt hgt
    rw [decide_eq_false (by grind)] at hlt
    rw [decide_eq_true (by grind)] at hgt
    unfold heatC
    rw [e1, if_neg (by rw [hlt]; simp), if_pos hgt]
    obtain ⟨r0, r1, r2⟩ := back_nr h.P hb.2.2.2.2.1 h.B hb.2.1 (by omega) g4
    have l1 : (1 : Rat) ≤ (l : Rat) := icast_le hb.2.2.2.2.2.1
    have l2 : (l : Rat) ≤ 16 := icast_le hb.2.2.2.2.2.2
    have k1 : (k : Rat) ≤ ((84 : Int) : Rat) := icast_le hk.2
    have k2 : ((-48 : Int) : Rat) ≤ (k : Rat) := icast_le hk.1
    rw [Rat.intCast_sub, Rat.intCast_mul] at r1 r2
    have M := fop_nr .add rfl h.L.1 r0 (by simp) (by simp only [ex]; rw [h.L.2]; grind) (by simp only [ex]; rw [h.L.2]; grind)
    simp only [ex] at M
    rw [h.L.2] at M
    obtain ⟨f0, f1, f2⟩ := M
    exact ⟨f0, by grind, by grind⟩
/-- How easily heat flows: between what it does through the solid and through the molten. -/
theorem ease_btw (h : SV s a b c d p l) {T : Nat} (hT : fnt .f32 T = true) (t0 : 0 ≤ fv .f32 T) (t1 : fv .f32 T ≤ 1) : fnt .f32 (fop .add .f32 s.k.c (fop .mul .f32 T (fop .sub .f32 s.k.d s.k.c))) = true ∧ (((min c d : Int) : Rat) / 4) ≤ fv .f32 (fop .add .f32 s.k.c (fop .mul .f32 T (fop .sub .f32 s.k.d s.k.c))) ∧ fv .f32 (fop .add .f32 s.k.c (fop .mul .f32 T (fop .sub .f32 s.k.d s.k.c))) ≤ ((max c d : Int) : Rat) / 4 := by
  have hb := h.bd
  have e : ex .sub ((d : Rat) / 4) ((c : Rat) / 4) = ((d - c : Int) : Rat) / 4 := by simp only [ex]; rw [Rat.intCast_sub]; grind
  have hD : V .f32 (fop .sub .f32 s.k.d s.k.c) (((d - c : Int) : Rat) / 4) := by
    have := V.op .sub rfl h.D h.C (by simp) (by rw [e]; exact rep_quarter (by omega))
    rwa [e] at this
  have r0 : Rep .f32 (0 : Rat) := Rep.int 0 (by decide)
  by_cases hdc : c ≤ d
  · have mn : min c d = c := by omega
    have mx : max c d = d := by omega
    rw [mn, mx]
    have q : (0 : Rat) ≤ ((d - c : Int) : Rat) := icast_le (a := 0) (by omega)
    have m1 := Rat.mul_nonneg t0 (show 0 ≤ ((d - c : Int) : Rat) / 4 by grind)
    have m2 := Rat.mul_nonneg (show 0 ≤ 1 - fv .f32 T by grind) (show 0 ≤ ((d - c : Int) : Rat) / 4 by grind)
    obtain ⟨g1, g2, g3⟩ := fop_btw .mul rfl .f32 (a := 0) (b := ((d - c : Int) : Rat) / 4) hT hD.1 (by simp) r0 (rep_quarter (by omega)) (by simp only [ex]; rw [hD.2]; grind) (by simp only [ex]; rw [hD.2]; grind)
    have e4 : ((d - c : Int) : Rat) = (d : Rat) - (c : Rat) := Rat.intCast_sub d c
    exact fop_btw .add rfl .f32 (a := (c : Rat) / 4) (b := (d : Rat) / 4) h.C.1 g1 (by simp) (rep_quarter (by omega)) (rep_quarter (by omega)) (by simp only [ex]; rw [h.C.2]; grind) (by simp only [ex]; rw [h.C.2]; grind)
  · have mn : min c d = d := by omega
    have mx : max c d = c := by omega
    rw [mn, mx]
    have q : ((d - c : Int) : Rat) ≤ (0 : Rat) := icast_le (b := 0) (by omega)
    have m1 := Rat.mul_nonneg t0 (show 0 ≤ -(((d - c : Int) : Rat) / 4) by grind)
    have m2 := Rat.mul_nonneg (show 0 ≤ 1 - fv .f32 T by grind) (show 0 ≤ -(((d - c : Int) : Rat) / 4) by grind)
    obtain ⟨g1, g2, g3⟩ := fop_btw .mul rfl .f32 (a := ((d - c : Int) : Rat) / 4) (b := 0) hT hD.1 (by simp) (rep_quarter (by omega)) r0 (by simp only [ex]; rw [hD.2]; grind) (by simp only [ex]; rw [hD.2]; grind)
    have e4 : ((d - c : Int) : Rat) = (d : Rat) - (c : Rat) := Rat.intCast_sub d c
    exact fop_btw .add rfl .f32 (a := (d : Rat) / 4) (b := (c : Rat) / 4) h.C.1 g1 (by simp) (rep_quarter (by omega)) (rep_quarter (by omega)) (by simp only [ex]; rw [h.C.2]; grind) (by simp only [ex]; rw [h.C.2]; grind)
end
end Go.Proofs.Ytiodpahbmoeiaaa
