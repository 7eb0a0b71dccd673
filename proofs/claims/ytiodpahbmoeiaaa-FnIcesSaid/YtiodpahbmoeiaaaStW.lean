/-
  Drawn stuffs, on: how warm a heat makes them, and back. No condition but what each law says.
-/
import Derived.Test.YtiodpahbmoeiaaaStV
set_option linter.unusedSimpArgs false
set_option linter.unusedVariables false
set_option linter.unusedSectionVars false
namespace Go.Proofs.Ytiodpahbmoeiaaa
open Go Go.RowKit
/-- A sixteenth between two numbers that are apart. -/
theorem cut_ex {m n : Int} (hn : 1 ≤ n ∧ n ≤ 16) (hm : m.natAbs ≤ 200) : ∃ z : Int, 8 * m ≤ z * n ∧ (z + 1) * n ≤ 8 * (m + 4) ∧ z.natAbs ≤ 1700 := by
  rcases (show n = 1 ∨ n = 2 ∨ n = 3 ∨ n = 4 ∨ n = 5 ∨ n = 6 ∨ n = 7 ∨ n = 8 ∨ n = 9 ∨ n = 10 ∨ n = 11 ∨ n = 12 ∨ n = 13 ∨ n = 14 ∨ n = 15 ∨ n = 16 by omega) with h | h | h | h | h | h | h | h | h | h | h | h | h | h | h | h <;> subst h
  · exact ⟨8 * m, by omega, by omega, by omega⟩
  · exact ⟨(8 * m + 1) / 2, by omega, by omega, by omega⟩
  · exact ⟨(8 * m + 2) / 3, by omega, by omega, by omega⟩
  · exact ⟨(8 * m + 3) / 4, by omega, by omega, by omega⟩
  · exact ⟨(8 * m + 4) / 5, by omega, by omega, by omega⟩
  · exact ⟨(8 * m + 5) / 6, by omega, by omega, by omega⟩
  · exact ⟨(8 * m + 6) / 7, by omega, by omega, by omega⟩
  · exact ⟨(8 * m + 7) / 8, by omega, by omega, by omega⟩
  · exact ⟨(8 * m + 8) / 9, by omega, by omega, by omega⟩
  · exact ⟨(8 * m + 9) / 10, by omega, by omega, by omega⟩
  · exact ⟨(8 * m + 10) / 11, by omega, by omega, by omega⟩
  · exact ⟨(8 * m + 11) / 12, by omega, by omega, by omega⟩
  · exact ⟨(8 * m + 12) / 13, by omega, by omega, by omega⟩
  · exact ⟨(8 * m + 13) / 14, by omega, by omega, by omega⟩
  · exact ⟨(8 * m + 14) / 15, by omega, by omega, by omega⟩
  · exact ⟨(8 * m + 15) / 16, by omega, by omega, by omega⟩
/-- The warmth of a part of heat: point + heat / hold. -/
def wrm (P X Y : Nat) : Nat := fop .add .f32 P (fop .quo .f32 X Y)
section
variable {P X Y : Nat} {p m n : Int}
theorem E_small : 0 < tp (-17) ∧ tp (-17) * 131072 = 1 := ⟨tp_pos _, tp_n17⟩
theorem quo_bd (hn : 1 ≤ n ∧ n ≤ 16) (hm : m.natAbs ≤ 200) : -(100 : Rat) ≤ (((m : Rat) / 4) / ((n : Rat) / 2)) ∧ (((m : Rat) / 4) / ((n : Rat) / 2)) ≤ 100 ∧ (((m : Rat) / 4) / ((n : Rat) / 2)) * (n : Rat) = (m : Rat) / 2 := by
  have q1 : (1 : Rat) ≤ (n : Rat) := icast_le hn.1
  have e : (((m : Rat) / 4) / ((n : Rat) / 2)) * (n : Rat) = (m : Rat) / 2 := by grind
  have m1 : (m : Rat) ≤ ((200 : Int) : Rat) := icast_le (by omega)
  have m2 : ((-200 : Int) : Rat) ≤ (m : Rat) := icast_le (by omega)
  generalize (((m : Rat) / 4) / ((n : Rat) / 2)) = x at e ⊢
  refine ⟨?_, ?_, e⟩
  · refine mul_cancel_le (c := (n : Rat)) (by grind) ?_
    rw [e]
    have : (-(100 : Rat)) * (n : Rat) ≤ -100 := by grind
    grind
  · refine mul_cancel_le (c := (n : Rat)) (by grind) ?_
    rw [e]
    have : (100 : Rat) ≤ 100 * (n : Rat) := by grind
    grind
theorem wrm_cut (hp : V .f32 P (p : Rat)) (hpb : -4 ≤ p ∧ p ≤ 4) (hx : V .f32 X ((m : Rat) / 4)) (hy : V .f32 Y ((n : Rat) / 2)) (hn : 1 ≤ n ∧ n ≤ 8) (hm : m.natAbs ≤ 200) :
    fnt .f32 (wrm P X Y) = true ∧ (∀ z : Int, z * n ≤ 8 * m → z.natAbs ≤ 10000 → (p : Rat) + (z : Rat) / 16 ≤ fv .f32 (wrm P X Y)) ∧ (∀ z : Int, 8 * m ≤ z * n → z.natAbs ≤ 10000 → fv .f32 (wrm P X Y) ≤ (p : Rat) + (z : Rat) / 16) ∧ Nr (wrm P X Y) ((p : Rat) + ((m : Rat) / 4) / ((n : Rat) / 2)) (2 * tp (-17)) := by
  obtain ⟨g1, g2, g3, g4⟩ := quo_cut hx hy (by omega) hm
  obtain ⟨b1, b2, _⟩ := quo_bd (m := m) (n := n) (by omega) hm
  have p1 : (p : Rat) ≤ ((4 : Int) : Rat) := icast_le hpb.2
  have p2 : ((-4 : Int) : Rat) ≤ (p : Rat) := icast_le hpb.1
  obtain ⟨E1, E2⟩ := E_small
  obtain ⟨_, n1, n2⟩ := g4
  have u1 : ex .add (fv .f32 P) (fv .f32 (fop .quo .f32 X Y)) ≤ 128 := by simp only [ex]; rw [hp.2]; grind
  have u2 : -ex .add (fv .f32 P) (fv .f32 (fop .quo .f32 X Y)) ≤ 128 := by simp only [ex]; rw [hp.2]; grind
  have N := fop_nr .add rfl hp.1 g1 (by simp) u1 u2
  obtain ⟨k1, k2⟩ := fop_rnd .add rfl .f32 hp.1 g1 (by simp) 7 (by decide) (by rw [tp7]; exact u1) (by rw [tp7]; exact u2)
  have hrep : ∀ z : Int, z.natAbs ≤ 10000 → Rep .f32 ((p : Rat) + (z : Rat) / 16) := fun z hz => by
    have := rep16 (16 * p + z) (by omega)
    rw [Rat.intCast_add, Rat.intCast_mul] at this
    have e : (((16 : Int) : Rat) * (p : Rat) + (z : Rat)) / 16 = (p : Rat) + (z : Rat) / 16 := by grind
    rwa [e] at this
  simp only [ex] at N k2
  rw [hp.2] at N k2
  refine ⟨k1, fun z hz hb => ?_, fun z hz hb => ?_, N.1, ?_, ?_⟩
  · have := g2 z hz (by omega)
    exact k2.rep_ge (hrep z hb) (by grind)
  · have := g3 z hz (by omega)
    exact k2.rep_le (hrep z hb) (by grind)
  · have := N.2.1
    show fv .f32 (wrm P X Y) - _ ≤ _
    unfold wrm
    grind
  · have := N.2.2
    show _ - fv .f32 (wrm P X Y) ≤ _
    unfold wrm
    grind
/-- From a warmth back to the part of heat. -/
theorem back_nr {W : Nat} (hp : V .f32 P (p : Rat)) (hpb : -4 ≤ p ∧ p ≤ 4) (hy : V .f32 Y ((n : Rat) / 2)) (hn : 1 ≤ n ∧ n ≤ 8) (hm : m.natAbs ≤ 200) (hW : Nr W ((p : Rat) + ((m : Rat) / 4) / ((n : Rat) / 2)) (2 * tp (-17))) : Nr (fop .mul .f32 Y (fop .sub .f32 W P)) ((m : Rat) / 4) (13 * tp (-17)) := by
  obtain ⟨hs1, hs2, e⟩ := quo_bd (m := m) (n := n) (by omega) hm
  obtain ⟨E1, E2⟩ := E_small
  have p1 : (p : Rat) ≤ ((4 : Int) : Rat) := icast_le hpb.2
  have p2 : ((-4 : Int) : Rat) ≤ (p : Rat) := icast_le hpb.1
  have n1 : (1 : Rat) ≤ (n : Rat) := icast_le hn.1
  have n2 : (n : Rat) ≤ 8 := icast_le hn.2
  generalize ((m : Rat) / 4) / ((n : Rat) / 2) = x at hs1 hs2 hW e
  obtain ⟨w0, w1, w2⟩ := hW
  have D := fop_nr .sub rfl w0 hp.1 (by simp) (by simp only [ex]; rw [hp.2]; grind) (by simp only [ex]; rw [hp.2]; grind)
  simp only [ex] at D
  rw [hp.2] at D
  obtain ⟨d0, d1, d2⟩ := D
  generalize fop .sub .f32 W P = Dw at d0 d1 d2 ⊢
  have hb := mul_bd (a := 4) (b := 3 * tp (-17)) (x := (n : Rat) / 2) (y := fv .f32 Dw - x) (by grind) (by grind) (by grind) (by grind)
  have e2 : (n : Rat) / 2 * fv .f32 Dw = (m : Rat) / 4 + (n : Rat) / 2 * (fv .f32 Dw - x) := by grind
  have c1 : (m : Rat) ≤ ((200 : Int) : Rat) := icast_le (by omega)
  have c2 : ((-200 : Int) : Rat) ≤ (m : Rat) := icast_le (by omega)
  have M := fop_nr .mul rfl hy.1 d0 (by simp) (by simp only [ex]; rw [hy.2]; grind) (by simp only [ex]; rw [hy.2]; grind)
  simp only [ex] at M
  rw [hy.2] at M
  obtain ⟨f0, f1, f2⟩ := M
  exact ⟨f0, by grind, by grind⟩
end
end Go.Proofs.Ytiodpahbmoeiaaa
