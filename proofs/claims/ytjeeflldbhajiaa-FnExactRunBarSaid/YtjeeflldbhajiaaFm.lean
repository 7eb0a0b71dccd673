/-
  The lesser and the greater of two finite numbers. No condition; nothing of the program is named here.
-/
import Derived.Test.YtjeeflldbhajiaaVal
import Derived.Test.YtjeeflldbhajiaaFin
set_option linter.unusedSimpArgs false
set_option linter.unusedVariables false
set_option linter.unusedSectionVars false
namespace Go.Proofs.Ytjeeflldbhajiaa
open Go Go.RowKit
theorem fin_isF0 {c : Nat} (h : fin .f32 c = true) : isF c = true := by
  obtain ⟨s, m, i, e⟩ := fin_decode h
  rw [decode_single] at e
  unfold isF
  by_cases c1 : c % 2147483648 < 8388608
  · exact decide_eq_true (by omega)
  · rw [if_neg c1] at e
    by_cases c2 : c % 2147483648 < 2139095040
    · exact decide_eq_true c2
    · rw [if_neg c2] at e
      by_cases c3 : c % 2147483648 = 2139095040
      · rw [if_pos c3] at e; cases e
      · rw [if_neg c3] at e; cases e
theorem fin_word {c : Nat} (h : fin .f32 (cn .f32 c) = true) : isF c = true ∧ cn .f32 c = c := by
  by_cases hn : isN .f32 c = true
  · rw [cn_of_isN hn] at h
    have : fin .f32 (qn .f32) = false := by decide +kernel
    rw [this] at h; cases h
  · have e := cn_of_not (k := .f32) (b := c) (by simpa using hn)
    rw [e] at h
    exact ⟨fin_isF0 h, e⟩
def fmin (x y : Nat) : Nat := if val y < val x then y else if val x < val y then x else if (FloatKind.f32.decode x).neg then x else y
def fmax (x y : Nat) : Nat := if val x < val y then y else if val y < val x then x else if (FloatKind.f32.decode x).neg then y else x
theorem run_fmin {P : Program} {x y : Nat} (hx : isF x = true) (hy : isF y = true) (ts : Array TypeId) (t : TypeId) (w : World) : (Builtin.min_ ts t #[.float .f32 x, .float .f32 y]).run P w = .ok (.float .f32 (fmin x y)) w := by
  have h := order_val hx hy
  unfold fmin
  rcases hc : compare (val x) (val y) with _ | _ | _
  · have := Int.compare_eq_lt.1 hc
    rw [hc] at h
    simp [Builtin.min_, Builtin.min2, h, show ¬ val y < val x by omega, show val x < val y from this]
  · have := Int.compare_eq_eq.1 hc
    rw [hc] at h
    simp [Builtin.min_, Builtin.min2, h, show ¬ val y < val x by omega, show ¬ val x < val y by omega]
  · have := Int.compare_eq_gt.1 hc
    rw [hc] at h
    simp [Builtin.min_, Builtin.min2, h, show val y < val x from this, show ¬ val x < val y by omega]
theorem run_fmax {P : Program} {x y : Nat} (hx : isF x = true) (hy : isF y = true) (ts : Array TypeId) (t : TypeId) (w : World) : (Builtin.max_ ts t #[.float .f32 x, .float .f32 y]).run P w = .ok (.float .f32 (fmax x y)) w := by
  have h := order_val hx hy
  unfold fmax
  rcases hc : compare (val x) (val y) with _ | _ | _
  · have := Int.compare_eq_lt.1 hc
    rw [hc] at h
    simp [Builtin.max_, Builtin.max2, h, show ¬ val y < val x by omega, show val x < val y from this]
  · have := Int.compare_eq_eq.1 hc
    rw [hc] at h
    simp [Builtin.max_, Builtin.max2, h, show ¬ val y < val x by omega, show ¬ val x < val y by omega]
  · have := Int.compare_eq_gt.1 hc
    rw [hc] at h
    simp [Builtin.max_, Builtin.max2, h, show val y < val x from this, show ¬ val x < val y by omega]
end Go.Proofs.Ytjeeflldbhajiaa
