/-
  Rounding keeps order: no number of the format is nearer than the rounded one. No condition but what each law says; nothing of the program is named here.
-/
import Derived.Test.YtiodpahbmoeiaaaStV
set_option linter.unusedSimpArgs false
set_option linter.unusedVariables false
set_option linter.unusedSectionVars false
namespace Go.Proofs.Ytiodpahbmoeiaaa
open Go Go.RowKit
theorem near_mult {v r t c : Rat} {k k' : Int} (ht : 0 < t) (hr : r = k * t) (hc : c = k' * t) (h1 : 2 * (r - v) ≤ t) (h2 : 2 * (v - r) ≤ t) (hlt : c ≤ v) : v - r ≤ v - c ∧ r - v ≤ v - c := by
  rcases (show k ≤ k' ∨ k' < k by omega) with h | h
  · have hle : r ≤ c := by
      rw [hr, hc]
      exact Rat.mul_le_mul_of_nonneg_right (by exact_mod_cast h) (Rat.le_of_lt ht)
    rcases (show k = k' ∨ k < k' by omega) with e | e
    · have : r = c := by rw [hr, hc, e]
      exact ⟨by grind, by grind⟩
    · have h3 : ((k + 1 : Int) : Rat) * t ≤ (k' : Rat) * t := Rat.mul_le_mul_of_nonneg_right (by exact_mod_cast (by omega : k + 1 ≤ k')) (Rat.le_of_lt ht)
      rw [Rat.intCast_add] at h3
      exact ⟨by grind, by grind⟩
  · have h3 : ((k' + 1 : Int) : Rat) * t ≤ (k : Rat) * t := Rat.mul_le_mul_of_nonneg_right (by exact_mod_cast (by omega : k' + 1 ≤ k)) (Rat.le_of_lt ht)
    rw [Rat.intCast_add] at h3
    have h4 : c + t ≤ r := by rw [hc, hr]; grind
    exact ⟨by grind, by grind⟩
theorem rnd_nearest {f : Ieee.Format} {v r : Rat} (h : Rnd f v r) {z q : Int} (hz : z.natAbs < 2 ^ (f.fractionBits + 1)) (hq : f.leastPlace ≤ q) (hlt : z * tp q < v) : v - r ≤ v - z * tp q ∧ r - v ≤ v - z * tp q := by
  obtain ⟨last, k, hl, hr, h1, h2, h3⟩ := h
  have ht := tp_pos last
  by_cases hlq : last ≤ q
  · obtain ⟨n, rfl⟩ : ∃ n : Nat, q = last + n := ⟨(q - last).toNat, by omega⟩
    have e : (z : Rat) * tp (last + n) = ((z * (2 ^ n : Nat) : Int) : Rat) * tp last := by
      rw [tp_add, tp_nat, Rat.intCast_mul]
      have : (((2 ^ n : Nat) : Int) : Rat) = ((2 ^ n : Nat) : Rat) := Rat.intCast_natCast _
      rw [this]
      grind
    exact near_mult ht hr e h1 h2 (Rat.le_of_lt hlt)
  · have hm : tp (last + f.fractionBits) = (((2 ^ f.fractionBits : Nat) : Int) : Rat) * tp last := by
      rw [tp_add, tp_nat, Rat.intCast_natCast]
      exact Rat.mul_comm _ _
    have hq0 := tp_pos q
    have hbig : ((2 ^ (f.fractionBits + 1) : Nat) : Rat) * tp q ≤ tp (last + f.fractionBits) := by
      rw [← tp_nat, ← tp_add]
      exact tp_le (by omega)
    have a1 : (z : Rat) < ((2 ^ (f.fractionBits + 1) : Nat) : Rat) := by
      have : z < ((2 ^ (f.fractionBits + 1) : Nat) : Int) := by omega
      exact_mod_cast this
    have a2 : -((2 ^ (f.fractionBits + 1) : Nat) : Rat) < (z : Rat) := by
      have h : -z < ((2 ^ (f.fractionBits + 1) : Nat) : Int) := by omega
      have h' : ((-z : Int) : Rat) < ((2 ^ (f.fractionBits + 1) : Nat) : Rat) := by exact_mod_cast h
      rw [Rat.intCast_neg] at h'
      grind
    have b1 := Rat.mul_lt_mul_of_pos_right a1 hq0
    have b2 := Rat.mul_lt_mul_of_pos_right a2 hq0
    rcases h3 with h3 | h3 | h3
    · omega
    · obtain ⟨n1, n2⟩ := near_mult ht hr hm h1 h2 h3
      exact ⟨by grind, by grind⟩
    · exfalso; grind
/-- A number of a format. -/
def Rp (f : Ieee.Format) (r : Rat) : Prop := ∃ z q : Int, z.natAbs < 2 ^ (f.fractionBits + 1) ∧ f.leastPlace ≤ q ∧ r = z * tp q
theorem Rp.neg {f : Ieee.Format} {r : Rat} (h : Rp f r) : Rp f (-r) := by
  obtain ⟨z, q, h1, h2, rfl⟩ := h
  exact ⟨-z, q, by omega, h2, by rw [Rat.intCast_neg]; grind⟩
theorem rnd_mono {f : Ieee.Format} {v1 v2 r1 r2 : Rat} (h1 : Rnd f v1 r1) (h2 : Rnd f v2 r2) (p1 : Rp f r1) (p2 : Rp f r2) (hv : v1 < v2) : r1 ≤ r2 := by
  by_cases hc : r1 ≤ r2
  · exact hc
  exfalso
  obtain ⟨z1, q1, a1, b1, e1⟩ := p1
  obtain ⟨z2, q2, a2, b2, e2⟩ := p2
  have c1 : r2 < v1 := by
    by_cases h : v1 ≤ r2
    · have := h1.le a2 b2 (by rw [← e2]; exact h)
      rw [← e2] at this
      exact absurd this hc
    · grind
  have c2 : v2 < r1 := by
    by_cases h : r1 ≤ v2
    · have := h2.ge a1 b1 (by rw [← e1]; exact h)
      rw [← e1] at this
      exact absurd this hc
    · grind
  have n1 := rnd_nearest h1 a2 b2 (by rw [← e2]; exact c1)
  rw [← e2] at n1
  have n2 := rnd_nearest h2.neg (z := -z1) (q := q1) (by omega) b1 (by rw [Rat.intCast_neg]; grind)
  rw [Rat.intCast_neg] at n2
  have e3 : -(z1 : Rat) * tp q1 = -r1 := by grind
  rw [e3] at n2
  grind
theorem rp_word {k : FloatKind} {x : Nat} (h : fnt k x = true) : Rp k.format (fv k x) := by
  unfold fnt at h
  cases e : k.format.read x with
  | number s m p =>
    obtain ⟨g1, g2, g3⟩ := read_bd _ e
    refine ⟨if s then -(m : Int) else m, p, by split <;> omega, g2, ?_⟩
    rw [(fv_of e).2]
    cases s
    · simp only [sg, Bool.false_eq_true, if_false, Rat.intCast_natCast]; grind
    · simp only [sg, if_true, Rat.intCast_neg, Rat.intCast_natCast]; grind
  | _ => rw [e] at h; simp [isNum] at h
end Go.Proofs.Ytiodpahbmoeiaaa
