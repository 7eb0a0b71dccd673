/-
  Drawn stuffs, on: what the law on stuffs asks of heats, warmths and parts. No condition but what each law says.
-/
import Derived.Test.YtiodpahbmoeiaaaStW
set_option linter.unusedSimpArgs false
set_option linter.unusedVariables false
set_option linter.unusedSectionVars false
namespace Go.Proofs.Ytiodpahbmoeiaaa
open Go Go.RowKit
theorem n1_16 : ((-1 : Int) : Rat) / 16 < 0 := by have : ((-1 : Int) : Rat) < ((0 : Int) : Rat) := icast_lt (by decide); grind
theorem p1_16 : (0 : Rat) < ((1 : Int) : Rat) / 16 := by have : ((0 : Int) : Rat) < ((1 : Int) : Rat) := icast_lt (by decide); grind
section
variable {s : St} {a b c d p l k : Int} {H : Nat}
theorem warm_low (hH : V .f32 H ((k : Rat) / 4)) (hk : k < 0) : warmC s.k H = wrm s.k.p H s.k.a ∧ partC s.k H = cn .f32 0 := by
  have e := flt0 hH
  rw [decide_eq_true hk] at e
  unfold warmC partC wrm
  rw [if_pos e, if_pos e]
  exact ⟨rfl, rfl⟩
theorem warm_mid (h : SV s a b c d p l) (hH : V .f32 H ((k : Rat) / 4)) (hk : 0 ≤ k) (hl : k ≤ 2 * l) : warmC s.k H = s.k.p ∧ partC s.k H = fop .quo .f32 H s.k.l := by
  have e := flt0 hH
  rw [decide_eq_false (by omega)] at e
  have e2 := fgtL h hH
  rw [decide_eq_false (by omega)] at e2
  unfold warmC partC
  rw [if_neg (by rw [e]; simp), if_neg (by rw [e2]; simp), if_neg (by rw [e]; simp), if_neg (by rw [e2]; simp)]
  exact ⟨rfl, rfl⟩
theorem warm_high (h : SV s a b c d p l) (hH : V .f32 H ((k : Rat) / 4)) (hl : 2 * l < k) (hk : k ≤ 100) : warmC s.k H = wrm s.k.p (fop .sub .f32 H s.k.l) s.k.b ∧ partC s.k H = cn .f32 1065353216 ∧ V .f32 (fop .sub .f32 H s.k.l) (((k - 2 * l : Int) : Rat) / 4) := by
  have hb := h.bd
  have e := flt0 hH
  rw [decide_eq_false (by omega)] at e
  have e2 := fgtL h hH
  rw [decide_eq_true hl] at e2
  unfold warmC partC wrm
  rw [if_neg (by rw [e]; simp), if_pos e2, if_neg (by rw [e]; simp), if_pos e2]
  refine ⟨rfl, rfl, ?_⟩
  have e3 : ex .sub ((k : Rat) / 4) ((l : Rat) / 2) = ((k - 2 * l : Int) : Rat) / 4 := by
    simp only [ex]
    rw [Rat.intCast_sub, Rat.intCast_mul]
    grind
  have := V.op .sub rfl hH h.L (by simp) (by rw [e3]; exact rep_quarter (by omega))
  rwa [e3] at this
/-- What a heat of k quarters leads to. -/
structure HV (s : St) (p k : Int) (W T : Nat) : Prop where
  fW : fnt .f32 W = true
  fT : fnt .f32 T = true
  t0 : 0 ≤ fv .f32 T
  t1 : fv .f32 T ≤ 1
  sg : (fv .f32 W < fv .f32 s.k.p ↔ k < 0) ∧ (0 ≤ k → fv .f32 s.k.p ≤ fv .f32 W)
theorem part_cut (h : SV s a b c d p l) (hH : V .f32 H ((k : Rat) / 4)) (hk : 0 ≤ k ∧ k ≤ 2 * l) : fnt .f32 (fop .quo .f32 H s.k.l) = true ∧ 0 ≤ fv .f32 (fop .quo .f32 H s.k.l) ∧ fv .f32 (fop .quo .f32 H s.k.l) ≤ 1 := by
  have hb := h.bd
  obtain ⟨g1, g2, g3, _⟩ := quo_cut hH h.L (by omega) (by omega)
  have u := g2 0 (by omega) (by decide)
  have v := g3 16 (by omega) (by decide)
  refine ⟨g1, ?_, ?_⟩
  · have : (((0 : Int) : Rat) / 16) = 0 := by grind
    grind
  · have : (((16 : Int) : Rat) / 16) = 1 := by grind
    grind
theorem hv_of (h : SV s a b c d p l) (hH : V .f32 H ((k : Rat) / 4)) (hk : -48 ≤ k ∧ k ≤ 84) : HV s p k (warmC s.k H) (partC s.k H) := by
  have hb := h.bd
  rcases heat_ways k l with hw | hw | hw
  · obtain ⟨e1, e2⟩ := warm_low (s := s) hH hw
    rw [e1, e2]
    obtain ⟨g1, g2, g3, g4⟩ := wrm_cut h.P hb.2.2.2.2.1 hH h.A hb.1 (by omega)
    have u := g3 (-1) (by omega) (by decide)
    have e := n1_16
    refine ⟨g1, V0.1, by rw [V0.2]; decide, by rw [V0.2]; decide, ⟨⟨fun _ => hw, fun _ => ?_⟩, fun h => by omega⟩⟩
    rw [h.P.2]; grind
  · obtain ⟨e1, e2⟩ := warm_mid h hH hw.1 hw.2
    rw [e1, e2]
    obtain ⟨g1, g2, g3⟩ := part_cut h hH hw
    exact ⟨h.P.1, g1, g2, g3, ⟨⟨fun x => absurd x (by grind), fun x => by omega⟩, fun _ => Rat.le_refl⟩⟩
  · obtain ⟨e1, e2, e3⟩ := warm_high h hH hw (by omega)
    rw [e1, e2]
    obtain ⟨g1, g2, g3, g4⟩ := wrm_cut h.P hb.2.2.2.2.1 e3 h.B hb.2.1 (by omega)
    have u := g2 1 (by omega) (by decide)
    have e := p1_16
    have u2 : fv .f32 s.k.p ≤ fv .f32 (wrm s.k.p (fop .sub .f32 H s.k.l) s.k.b) := by rw [h.P.2]; grind
    exact ⟨g1, V1.1, by rw [V1.2]; decide, by rw [V1.2]; decide, ⟨⟨fun x => absurd x (by grind), fun x => by omega⟩, fun _ => u2⟩⟩
/-- More heat: warmer, or more of it molten. -/
theorem hv_step {H1 : Nat} (h : SV s a b c d p l) (hH : V .f32 H ((k : Rat) / 4)) (hH1 : V .f32 H1 (((k + 4 : Int) : Rat) / 4)) (hk : -48 ≤ k ∧ k ≤ 80) :
    fv .f32 (warmC s.k H) ≤ fv .f32 (warmC s.k H1) ∧ fv .f32 (partC s.k H) ≤ fv .f32 (partC s.k H1) ∧ (fv .f32 (warmC s.k H) < fv .f32 (warmC s.k H1) ∨ fv .f32 (partC s.k H) < fv .f32 (partC s.k H1)) := by
  have hb := h.bd
  have v0 := hv_of h hH (by omega)
  have v1 := hv_of h hH1 (by omega)
  have lt16 : ∀ z : Int, ((z : Int) : Rat) / 16 < ((z + 1 : Int) : Rat) / 16 := fun z => by rw [Rat.intCast_add]; grind
  rcases heat_ways k l with hw | hw | hw
  · obtain ⟨e1, e2⟩ := warm_low (s := s) hH hw
    have hpt : fv .f32 (partC s.k H) = 0 := by rw [e2]; exact V0.2
    by_cases h4 : k + 4 < 0
    · obtain ⟨f1, f2⟩ := warm_low (s := s) hH1 h4
      obtain ⟨z, z1, z2, z3⟩ := cut_ex (m := k) (n := a) (by omega) (by omega)
      obtain ⟨g1, g2, g3, g4⟩ := wrm_cut h.P hb.2.2.2.2.1 hH h.A hb.1 (by omega)
      obtain ⟨i1, i2, i3, i4⟩ := wrm_cut h.P hb.2.2.2.2.1 hH1 h.A hb.1 (by omega)
      have u := g3 z z1 (by omega)
      have v := i2 (z + 1) z2 (by omega)
      have := lt16 z
      have hlt : fv .f32 (warmC s.k H) < fv .f32 (warmC s.k H1) := by rw [e1, f1]; grind
      exact ⟨Rat.le_of_lt hlt, by rw [hpt]; exact v1.t0, .inl hlt⟩
    · have x1 := (v0.sg.1).2 hw
      have x2 := v1.sg.2 (by omega)
      have hlt : fv .f32 (warmC s.k H) < fv .f32 (warmC s.k H1) := by grind
      exact ⟨Rat.le_of_lt hlt, by rw [hpt]; exact v1.t0, .inl hlt⟩
  · obtain ⟨e1, e2⟩ := warm_mid h hH hw.1 hw.2
    have hW : fv .f32 (warmC s.k H) ≤ fv .f32 (warmC s.k H1) := by rw [e1]; exact v1.sg.2 (by omega)
    by_cases h4 : k + 4 ≤ 2 * l
    · obtain ⟨f1, f2⟩ := warm_mid h hH1 (by omega) h4
      obtain ⟨z, z1, z2, z3⟩ := cut_ex (m := k) (n := l) (by omega) (by omega)
      obtain ⟨g1, g2, g3, g4⟩ := quo_cut hH h.L (by omega) (by omega)
      obtain ⟨i1, i2, i3, i4⟩ := quo_cut hH1 h.L (by omega) (by omega)
      have u := g3 z z1 (by omega)
      have v := i2 (z + 1) z2 (by omega)
      have := lt16 z
      have hlt : fv .f32 (partC s.k H) < fv .f32 (partC s.k H1) := by rw [e2, f2]; grind
      exact ⟨hW, Rat.le_of_lt hlt, .inr hlt⟩
    · obtain ⟨f1, f2, f3⟩ := warm_high h hH1 (by omega) (by omega)
      obtain ⟨g1, g2, g3, g4⟩ := wrm_cut h.P hb.2.2.2.2.1 f3 h.B hb.2.1 (by omega)
      have u := g2 1 (by omega) (by decide)
      have e := p1_16
      refine ⟨hW, ?_, .inl ?_⟩
      · rw [f2, V1.2]; exact v0.t1
      · rw [e1, f1, h.P.2]; grind
  · obtain ⟨e1, e2, e3⟩ := warm_high h hH hw (by omega)
    obtain ⟨f1, f2, f3⟩ := warm_high h hH1 (by omega) (by omega)
    obtain ⟨z, z1, z2, z3⟩ := cut_ex (m := k - 2 * l) (n := b) (by omega) (by omega)
    obtain ⟨g1, g2, g3, g4⟩ := wrm_cut h.P hb.2.2.2.2.1 e3 h.B hb.2.1 (by omega)
    obtain ⟨i1, i2, i3, i4⟩ := wrm_cut h.P hb.2.2.2.2.1 f3 h.B hb.2.1 (by omega)
    have u := g3 z z1 (by omega)
    have v := i2 (z + 1) (by have : k + 4 - 2 * l = k - 2 * l + 4 := by omega
                             rw [this]; exact z2) (by omega)
    have := lt16 z
    have hlt : fv .f32 (warmC s.k H) < fv .f32 (warmC s.k H1) := by rw [e1, f1]; grind
    exact ⟨Rat.le_of_lt hlt, by rw [e2, f2]; exact Rat.le_refl, .inl hlt⟩
end
end Go.Proofs.Ytiodpahbmoeiaaa
