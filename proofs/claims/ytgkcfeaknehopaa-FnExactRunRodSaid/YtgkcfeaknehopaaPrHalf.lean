/-
  Half of a number: by two, or a half times. No condition.
-/
import Derived.Test.YtgkcfeaknehopaaPrFl
set_option linter.unusedSimpArgs false
set_option linter.unusedVariables false
set_option linter.unusedSectionVars false
namespace Go.Proofs.Ytgkcfeaknehopaa
open Go Go.RowKit
theorem log2_shl {m : Nat} (k : Nat) (hm : m ≠ 0) : (m <<< k).log2 = m.log2 + k := by
  rw [Nat.shiftLeft_eq]
  have h1 : 2 ^ m.log2 ≤ m := Nat.log2_self_le hm
  have h2 : m < 2 ^ (m.log2 + 1) := Nat.lt_log2_self
  have hp := Nat.two_pow_pos k
  have h0 : m * 2 ^ k ≠ 0 := Nat.mul_ne_zero hm (by omega)
  rw [Nat.log2_eq_iff h0]
  constructor
  · rw [Nat.pow_add]; exact Nat.mul_le_mul_right _ h1
  · rw [show m.log2 + k + 1 = (m.log2 + 1) + k by omega, Nat.pow_add]; exact Nat.mul_lt_mul_of_pos_right h2 hp
theorem cut_nil (s : Bool) (n : Nat) : Ieee.Toward.even.cut s n 0 = n := by
  simp [Ieee.Toward.cut, Nat.mod_one]
theorem cut_exact (s : Bool) (m d e : Nat) (hm : m ≠ 0) : Ieee.Toward.even.cut s (m <<< (d + e)) d = m <<< e := by
  have hl := log2_shl (d + e) hm
  have hg : (1 : Nat) <<< min d ((m <<< (d + e)).log2 + 2) = 2 ^ d := by rw [hl, Nat.min_eq_left (by omega), Nat.one_shiftLeft]
  have hn : m <<< (d + e) = (m <<< e) * 2 ^ d := by rw [Nat.shiftLeft_eq, Nat.shiftLeft_eq, Nat.mul_assoc, ← Nat.pow_add, Nat.add_comm e d]
  have hp := Nat.two_pow_pos d
  unfold Ieee.Toward.cut
  simp only [hg]
  rw [hn, Nat.mul_div_cancel _ hp, Nat.mul_mod_left]
  have h1 : decide (2 ^ d < 2 * 0) = false := by simp
  have h2 : (2 ^ d == 2 * 0) = false := by simp
  simp [h1, h2]
theorem cut_scale (s : Bool) (m d k : Nat) (hm : m ≠ 0) : Ieee.Toward.even.cut s (m <<< k) (d + k) = Ieee.Toward.even.cut s m d := by
  have hl := log2_shl k hm
  have hg : (1 : Nat) <<< min (d + k) ((m <<< k).log2 + 2) = (1 <<< min d (m.log2 + 2)) * 2 ^ k := by
    rw [hl, Nat.one_shiftLeft, Nat.one_shiftLeft, ← Nat.pow_add]
    congr 1
    omega
  have hp := Nat.two_pow_pos k
  unfold Ieee.Toward.cut
  simp only [hg]
  generalize (1 : Nat) <<< min d (m.log2 + 2) = g
  have hn : m <<< k = m * 2 ^ k := Nat.shiftLeft_eq _ _
  rw [hn, Nat.mul_div_mul_right _ _ hp, Nat.mul_mod_mul_right]
  have h1 : decide (g * 2 ^ k < 2 * (m % g * 2 ^ k)) = decide (g < 2 * (m % g)) := by
    rw [decide_eq_decide, ← Nat.mul_assoc]
    exact Nat.mul_lt_mul_right hp
  have h2 : (g * 2 ^ k == 2 * (m % g * 2 ^ k)) = (g == 2 * (m % g)) := by
    rw [Bool.eq_iff_iff, beq_iff_eq, beq_iff_eq, ← Nat.mul_assoc]
    exact ⟨fun h => Nat.eq_of_mul_eq_mul_right hp h, fun h => congrArg (· * 2 ^ k) h⟩
  rw [h1, h2]
theorem nearest_scale (f : Ieee.Format) (s : Bool) (m k : Nat) (p : Int) : f.nearest s (m <<< k) (p - k) = f.nearest s m p := by
  by_cases hm : m = 0
  · subst hm; simp [Ieee.Format.nearest]
  have hmk : m <<< k ≠ 0 := by rw [Nat.shiftLeft_eq]; exact Nat.mul_ne_zero hm (by have := Nat.two_pow_pos k; omega)
  unfold Ieee.Format.nearest
  rw [if_neg hm, if_neg hmk]
  have hl := log2_shl k hm
  have e : max (p - k + (m <<< k).log2 - f.fractionBits) f.leastPlace = max (p + m.log2 - f.fractionBits) f.leastPlace := by rw [hl]; congr 1; omega
  simp only [e]
  generalize max (p + m.log2 - f.fractionBits) f.leastPlace = last
  have hc : Ieee.Toward.even.cut s ((m <<< k) <<< (p - k - last).toNat) (last - (p - k)).toNat = Ieee.Toward.even.cut s (m <<< (p - last).toNat) (last - p).toNat := by
    rw [← Nat.shiftLeft_add]
    by_cases h1 : last ≤ p - k
    · rw [show (last - (p - k)).toNat = 0 by omega, show (last - p).toNat = 0 by omega, cut_nil, cut_nil]
      congr 1; omega
    · rw [show (p - k - last).toNat = 0 by omega, Nat.add_zero]
      by_cases h2 : last ≤ p
      · rw [show (last - p).toNat = 0 by omega, cut_nil]
        have h3 : k = (last - (p - k)).toNat + (p - last).toNat := by omega
        have := cut_exact s m (last - (p - k)).toNat (p - last).toNat hm
        rw [← h3] at this
        exact this
      · rw [show (p - last).toNat = 0 by omega, show (last - (p - k)).toNat = (last - p).toNat + k by omega, Nat.shiftLeft_zero]
        exact cut_scale s m _ k hm
  rw [hc]
theorem read_two : Ieee.single.read 1073741824 = .number false 8388608 (-22) := by decide
theorem read_half : Ieee.single.read 1056964608 = .number false 8388608 (-24) := by decide
theorem read_lt {x : Nat} {s : Bool} {m : Nat} {i : Int} (h : Ieee.single.read x = .number s m i) : m < 16777216 := by
  unfold Ieee.Format.read at h
  have hb : Ieee.single.binade = 8388608 := by decide
  simp only [hb] at h
  split at h
  · injection h with h1 h2 h3; omega
  · split at h
    · injection h with h1 h2 h3
      have := Nat.mod_lt (x % Ieee.single.signWeight) (show 0 < 8388608 by omega)
      omega
    · split at h <;> exact absurd h (by simp)
theorem half_same (x : Nat) : fop .quo .f32 x 1073741824 = fop .mul .f32 1056964608 x := by
  have h : floatBits .quo .f32 x 1073741824 = floatBits .mul .f32 1056964608 x := by
    show ((Ieee.single.read x).quotient 25 (Ieee.single.read 1073741824)).map Ieee.single.write = ((Ieee.single.read 1056964608).product (Ieee.single.read x)).map Ieee.single.write
    rw [read_two, read_half]
    rcases hr : Ieee.single.read x with ⟨s, m, i⟩ | s | ⟨s, t⟩
    · have hm24 := read_lt hr
      simp only [Ieee.Datum.quotient, Ieee.Datum.product, Option.map_some, Ieee.Format.write]
      rw [if_neg (by omega)]
      simp only [Option.map_some, Option.some.injEq, Ieee.Format.write, Bool.xor_false, Bool.false_xor]
      have hl : (8388608 : Nat).log2 = 23 := by decide
      rw [hl]
      by_cases hm : m = 0
      · subst hm; simp [Ieee.Format.nearest]
      have hlm : m.log2 < 24 := (Nat.log2_lt hm).2 (by omega)
      generalize m.log2 = g at hlm
      have h8 : (8388608 : Nat) = 1 <<< 23 := by decide
      have hq : m <<< (25 + 23 - g) = (m <<< (25 - g)) * 8388608 := by
        rw [Nat.shiftLeft_eq, Nat.shiftLeft_eq, Nat.mul_assoc]
        congr 1
        rw [show 25 + 23 - g = (25 - g) + 23 by omega, Nat.pow_add]
      have e1 : m <<< (25 + 23 - g) / 8388608 = m <<< (25 - g) := by rw [hq]; exact Nat.mul_div_cancel _ (by omega)
      have e2 : m <<< (25 + 23 - g) % 8388608 = 0 := by rw [hq]; exact Nat.mul_mod_left _ _
      rw [e1, e2]
      have e3 : 2 * (m <<< (25 - g)) + ((0 : Nat) != 0).toNat = m <<< (26 - g) := by
        show 2 * (m <<< (25 - g)) + 0 = _
        rw [show 26 - g = (25 - g) + 1 by omega, Nat.shiftLeft_succ, Nat.add_zero]
      rw [e3]
      have e4 : 8388608 * m = m <<< 23 := by rw [Nat.shiftLeft_eq, Nat.mul_comm]
      rw [e4]
      have p1 := nearest_scale Ieee.single s m (26 - g) (i - 1)
      have p2 := nearest_scale Ieee.single s m 23 (i - 1)
      rw [show i - -22 - ((25 + 23 - g : Nat) : Int) - 1 = (i - 1) - ((26 - g : Nat) : Int) by omega, p1, show (-24 : Int) + i = (i - 1) - ((23 : Nat) : Int) by omega, p2]
    · rfl
    · rfl
  unfold fop
  rw [h]
end Go.Proofs.Ytgkcfeaknehopaa
