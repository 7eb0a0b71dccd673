/-
  What a 32-bit word stands for, as a whole number of units of the least place; comparisons are those of these numbers. No condition but what each lemma says.
-/
import Derived.Test.YtiodpahbmoeiaaaStuff
set_option linter.unusedSimpArgs false
set_option linter.unusedVariables false
set_option linter.unusedSectionVars false
namespace Go.Proofs.Ytiodpahbmoeiaaa
open Go Go.RowKit

/-- The magnitude of a rung, in units of the least place. -/
def mag32 (r : Nat) : Nat := if r < 8388608 then r else (8388608 + r % 8388608) * 2 ^ (r / 8388608 - 1)
def neg32 (c : Nat) : Bool := c / 2147483648 % 2 == 1
/-- What a finite word stands for. -/
def val (c : Nat) : Int := if neg32 c then -(mag32 (c % 2147483648) : Int) else (mag32 (c % 2147483648) : Int)
/-- Is a word finite. -/
def isF (c : Nat) : Bool := c % 2147483648 < 2139095040

theorem mag32_lo (r : Nat) (h : 8388608 ≤ r) : 2 ^ (r / 8388608 + 22) ≤ mag32 r := by
  unfold mag32
  rw [if_neg (by omega)]
  calc 2 ^ (r / 8388608 + 22) = 8388608 * 2 ^ (r / 8388608 - 1) := by
        rw [show r / 8388608 + 22 = 23 + (r / 8388608 - 1) by omega, Nat.pow_add]
    _ ≤ _ := Nat.mul_le_mul_right _ (by omega)
theorem mag32_hi (r : Nat) (h : 8388608 ≤ r) : mag32 r < 2 ^ (r / 8388608 + 23) := by
  unfold mag32
  rw [if_neg (by omega)]
  calc (8388608 + r % 8388608) * 2 ^ (r / 8388608 - 1) < 16777216 * 2 ^ (r / 8388608 - 1) := Nat.mul_lt_mul_of_pos_right (by omega) (Nat.two_pow_pos _)
    _ = 2 ^ (r / 8388608 + 23) := by
        rw [show r / 8388608 + 23 = 24 + (r / 8388608 - 1) by omega, Nat.pow_add]
theorem mag32_lt {r s : Nat} (h : r < s) : mag32 r < mag32 s := by
  by_cases h1 : s < 8388608
  · unfold mag32; rw [if_pos h1, if_pos (by omega)]; exact h
  · by_cases h2 : r < 8388608
    · have := mag32_lo s (by omega)
      have h3 : 2 ^ 23 ≤ 2 ^ (s / 8388608 + 22) := Nat.pow_le_pow_right (by omega) (by omega)
      have h4 : mag32 r = r := by unfold mag32; rw [if_pos h2]
      omega
    · by_cases h3 : r / 8388608 = s / 8388608
      · unfold mag32
        rw [if_neg h2, if_neg h1, h3]
        exact Nat.mul_lt_mul_of_pos_right (by omega) (Nat.two_pow_pos _)
      · have h5 : r / 8388608 < s / 8388608 := by
          have := Nat.div_le_div_right (c := 8388608) (Nat.le_of_lt h)
          omega
        have h6 := mag32_hi r (by omega)
        have h7 := mag32_lo s (by omega)
        have h8 : 2 ^ (r / 8388608 + 23) ≤ 2 ^ (s / 8388608 + 22) := Nat.pow_le_pow_right (by omega) (by omega)
        omega
theorem mag32_inj {r s : Nat} (h : mag32 r = mag32 s) : r = s := by
  rcases Nat.lt_trichotomy r s with h1 | h1 | h1
  · have := mag32_lt h1; omega
  · exact h1
  · have := mag32_lt h1; omega

/-- A finite word's datum. -/
theorem decode_fin {c : Nat} (h : isF c = true) : ∃ m p, FloatKind.f32.decode c = .number (neg32 c) m p ∧ -149 ≤ p ∧ m * 2 ^ (p + 149).toNat = mag32 (c % 2147483648) := by
  simp only [isF, decide_eq_true_eq] at h
  rw [decode_single]
  by_cases h1 : c % 2147483648 < 8388608
  · rw [if_pos h1]
    exact ⟨_, _, rfl, by omega, by unfold mag32; rw [if_pos h1]; simp⟩
  · rw [if_neg h1, if_pos h]
    refine ⟨_, _, rfl, by omega, ?_⟩
    unfold mag32
    rw [if_neg h1]
    congr 2
    omega
theorem isF_not_nan {c : Nat} (h : isF c = true) : isN .f32 c = false := by
  obtain ⟨m, p, e, _⟩ := decode_fin h
  unfold isN; rw [e]; rfl

theorem signed_scale (s : Bool) (m : Nat) (p b : Int) (hb : -149 ≤ b) (hp : b ≤ p) : Ieee.signed s m (p - b).toNat * (2 ^ (b + 149).toNat : Nat) = if s then -((m * 2 ^ (p + 149).toNat : Nat) : Int) else ((m * 2 ^ (p + 149).toNat : Nat) : Int) := by
  have e : m <<< (p - b).toNat * 2 ^ (b + 149).toNat = m * 2 ^ (p + 149).toNat := by
    rw [Nat.shiftLeft_eq, Nat.mul_assoc, ← Nat.pow_add]
    congr 2
    omega
  unfold Ieee.signed
  cases s
  · simp only [Bool.false_eq_true, if_false]; rw [← Int.natCast_mul, e]
  · simp only [if_true]; rw [Int.neg_mul, ← Int.natCast_mul, e]

theorem compare_scale (a b : Int) (k : Nat) (hk : 0 < k) : compare a b = compare (a * k) (b * k) := by
  have hk' : (0 : Int) < k := by omega
  simp only [compare, compareOfLessAndEq]
  have e1 : (a < b) ↔ (a * k < b * k) := (Int.mul_lt_mul_right hk').symm
  have e2 : (a = b) ↔ (a * k = b * k) := ⟨fun h => by rw [h], fun h => Int.eq_of_mul_eq_mul_right (by omega) h⟩
  by_cases h1 : a < b
  · rw [if_pos h1, if_pos (e1.1 h1)]
  · rw [if_neg h1, if_neg (fun h => h1 (e1.2 h))]
    by_cases h2 : a = b
    · rw [if_pos h2, if_pos (e2.1 h2)]
    · rw [if_neg h2, if_neg (fun h => h2 (e2.2 h))]

theorem order_val {x y : Nat} (hx : isF x = true) (hy : isF y = true) : FloatKind.f32.format.order x y = some (compare (val x) (val y)) := by
  obtain ⟨m, p, e1, hp, hm⟩ := decode_fin hx
  obtain ⟨n, q, e2, hq, hn⟩ := decode_fin hy
  have d1 : FloatKind.f32.format.read x = .number (neg32 x) m p := e1
  have d2 : FloatKind.f32.format.read y = .number (neg32 y) n q := e2
  unfold Ieee.Format.order
  rw [d1, d2]
  simp only [Ieee.Datum.order]
  rw [compare_scale _ _ (2 ^ (min p q + 149).toNat) (Nat.two_pow_pos _), signed_scale _ _ _ _ (by omega) (by omega), signed_scale _ _ _ _ (by omega) (by omega), hm, hn]
  rfl

theorem flt_val {x y : Nat} (hx : isF x = true) (hy : isF y = true) : flt .f32 x y = decide (val x < val y) := by
  unfold flt
  rw [order_val hx hy]
  simp only [compare, compareOfLessAndEq]
  by_cases h : val x < val y
  · simp [h]
  · by_cases h2 : val x = val y <;> simp [h, h2]
theorem feq_val {x y : Nat} (hx : isF x = true) (hy : isF y = true) : feq .f32 x y = decide (val x = val y) := by
  unfold feq
  rw [order_val hx hy]
  simp only [compare, compareOfLessAndEq]
  by_cases h : val x < val y
  · simp [h]; omega
  · by_cases h2 : val x = val y <;> simp [h, h2]
theorem fgt_val {x y : Nat} (hx : isF x = true) (hy : isF y = true) : fgt .f32 x y = decide (val y < val x) := by
  unfold fgt
  rw [order_val hx hy]
  simp only [compare, compareOfLessAndEq]
  by_cases h : val x < val y
  · first | (simp [h]; done) | (simp [h]; omega)
  · by_cases h2 : val x = val y
    · simp [h2]
    · simp [h, h2]; omega
theorem fle_val {x y : Nat} (hx : isF x = true) (hy : isF y = true) : fle .f32 x y = decide (val x ≤ val y) := by
  rw [fle_not_fgt (isF_not_nan hx) (isF_not_nan hy), fgt_val hx hy]
  by_cases h : val y < val x
  · first | (simp [h]; done) | (simp [h]; omega)
  · first | (simp [h]; done) | (simp [h]; omega)
theorem fge_val {x y : Nat} (hx : isF x = true) (hy : isF y = true) : fge .f32 x y = decide (val y ≤ val x) := by
  have := flt_not_fge (isF_not_nan hx) (isF_not_nan hy)
  rw [flt_val hx hy] at this
  have h2 : fge .f32 x y = !decide (val x < val y) := by rw [this]; simp
  rw [h2]
  by_cases h : val x < val y
  · first | (simp [h]; done) | (simp [h]; omega)
  · first | (simp [h]; done) | (simp [h]; omega)

/-- Equal numbers with equal signs are one word. -/
theorem word_of_val {x y : Nat} (hx : x < 4294967296) (hy : y < 4294967296) (hv : val x = val y) (hs : neg32 x = neg32 y) : x = y := by
  have hm : mag32 (x % 2147483648) = mag32 (y % 2147483648) := by
    unfold val at hv
    rw [hs] at hv
    split at hv <;> omega
  have hr := mag32_inj hm
  simp only [neg32] at hs
  have : x / 2147483648 % 2 = y / 2147483648 % 2 := by
    rcases Nat.mod_two_eq_zero_or_one (x / 2147483648) with h1 | h1 <;> rcases Nat.mod_two_eq_zero_or_one (y / 2147483648) with h2 | h2 <;> simp [h1, h2] at hs <;> omega
  omega
end Go.Proofs.Ytiodpahbmoeiaaa
