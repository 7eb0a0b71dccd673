/-
  Words as exact numbers: small dyadic ones, and what is reckoned of them without rounding; what is rounded, between bounds. No condition but what each law says; nothing of the program is named here.
-/
import Derived.Test.YtldancjofgobnaaErr
set_option linter.unusedSimpArgs false
set_option linter.unusedVariables false
set_option linter.unusedSectionVars false
namespace Go.Proofs.Ytldancjofgobnaa
open Go Go.RowKit
/-- The word is the number q. -/
def V (k : FloatKind) (x : Nat) (q : Rat) : Prop := fnt k x = true ∧ fv k x = q
theorem V.btw {k : FloatKind} {x : Nat} {q : Rat} (h : V k x q) : Btw k x q q := ⟨h.1, by rw [h.2]; exact Rat.le_refl, by rw [h.2]; exact Rat.le_refl⟩
theorem V.op (op : BinOp) (hop : arithOp op = true) {k : FloatKind} {x y : Nat} {a b : Rat} (hx : V k x a) (hy : V k y b) (h0 : op = .quo → b ≠ 0) (hr : Rep k (ex op a b)) : V k (fop op k x y) (ex op a b) := by
  have h := fop_btw op hop k hx.1 hy.1 (by rw [hy.2]; exact h0) hr hr (by rw [hx.2, hy.2]; exact Rat.le_refl) (by rw [hx.2, hy.2]; exact Rat.le_refl)
  exact ⟨h.1, Rat.le_antisymm h.2.2 h.2.1⟩
theorem V.eq {k : FloatKind} {x : Nat} {a b : Rat} (h : V k x a) (e : a = b) : V k x b := e ▸ h
theorem V.int (k : FloatKind) (n : Int) (h : n.natAbs < 2 ^ (digK k + 1)) : V k (floatOfInt k n) n := ofInt_val k n h
theorem V.cn {k : FloatKind} {x : Nat} {q : Rat} (h : V k x q) : V k (Go.Proofs.Ytldancjofgobnaa.cn k x) q := by rw [fnt_cn h.1]; exact h
theorem tp_n1 : tp (-1) * 2 = 1 := by have := tp_add (-1) 1; rw [tp_one] at this; rw [← this]; exact tp_zero
theorem tp_n2 : tp (-2) * 4 = 1 := by
  have h := tp_n1
  have e : tp (-2) = tp (-1) * tp (-1) := by rw [← tp_add]; rfl
  rw [e]; grind
theorem tp_n3 : tp (-3) * 8 = 1 := by
  have e : tp (-3) = tp (-2) * tp (-1) := by rw [← tp_add]; rfl
  have h := tp_n1
  have h2 := tp_n2
  rw [e]; grind
/-- A whole number of units of a power of two. -/
theorem rep_at {k : FloatKind} (z q : Int) (h : z.natAbs < 2 ^ (digK k + 1)) (h1 : lowK k ≤ q) (h2 : q + digK k + 1 < topK k) {c : Rat} (hc : c = z * tp q) : Rep k c := hc ▸ Rep.mul_tp z q h h1 h2
theorem rep_half {n : Int} (h : n.natAbs < 16777216) : Rep .f32 ((n : Rat) / 2) := rep_at (k := .f32) n (-1) h (by decide) (by decide) (by have := tp_n1; grind)
theorem rep_quarter {n : Int} (h : n.natAbs < 16777216) : Rep .f32 ((n : Rat) / 4) := rep_at (k := .f32) n (-2) h (by decide) (by decide) (by have := tp_n2; grind)
theorem rep_eighth {n : Int} (h : n.natAbs < 16777216) : Rep .f32 ((n : Rat) / 8) := rep_at (k := .f32) n (-3) h (by decide) (by decide) (by have := tp_n3; grind)
theorem rep_int {n : Int} (h : n.natAbs < 16777216) : Rep .f32 (n : Rat) := Rep.int n h
theorem c2 : Go.Proofs.Ytldancjofgobnaa.cn .f32 1073741824 = floatOfInt .f32 2 := by decide +kernel
theorem c4 : Go.Proofs.Ytldancjofgobnaa.cn .f32 1082130432 = floatOfInt .f32 4 := by decide +kernel
theorem c8 : Go.Proofs.Ytldancjofgobnaa.cn .f32 1090519040 = floatOfInt .f32 8 := by decide +kernel
theorem c0 : Go.Proofs.Ytldancjofgobnaa.cn .f32 0 = floatOfInt .f32 0 := by decide +kernel
theorem c1 : Go.Proofs.Ytldancjofgobnaa.cn .f32 1065353216 = floatOfInt .f32 1 := by decide +kernel
theorem V2 : V .f32 (Go.Proofs.Ytldancjofgobnaa.cn .f32 1073741824) 2 := by rw [c2]; exact (V.int .f32 2 (by decide)).eq rfl
theorem V4 : V .f32 (Go.Proofs.Ytldancjofgobnaa.cn .f32 1082130432) 4 := by rw [c4]; exact (V.int .f32 4 (by decide)).eq rfl
theorem V8 : V .f32 (Go.Proofs.Ytldancjofgobnaa.cn .f32 1090519040) 8 := by rw [c8]; exact (V.int .f32 8 (by decide)).eq rfl
theorem V1 : V .f32 (Go.Proofs.Ytldancjofgobnaa.cn .f32 1065353216) 1 := by rw [c1]; exact (V.int .f32 1 (by decide)).eq rfl
theorem V0 : V .f32 (Go.Proofs.Ytldancjofgobnaa.cn .f32 0) 0 := by rw [c0]; exact (V.int .f32 0 (by decide)).eq rfl
theorem half_val {n : Int} (h : n.natAbs < 16777216) : V .f32 (fop .quo .f32 (Go.Proofs.Ytldancjofgobnaa.cn .f32 (floatOfInt .f32 n)) (Go.Proofs.Ytldancjofgobnaa.cn .f32 1073741824)) ((n : Rat) / 2) :=
  V.op .quo rfl (V.int .f32 n h).cn V2 (fun _ => by decide) (rep_half h)
theorem quarter_val {n : Int} (h : n.natAbs < 16777216) : V .f32 (fop .quo .f32 (Go.Proofs.Ytldancjofgobnaa.cn .f32 (floatOfInt .f32 n)) (Go.Proofs.Ytldancjofgobnaa.cn .f32 1082130432)) ((n : Rat) / 4) :=
  V.op .quo rfl (V.int .f32 n h).cn V4 (fun _ => by decide) (rep_quarter h)
theorem eighth_val {n : Int} (h : n.natAbs < 16777216) : V .f32 (fop .quo .f32 (Go.Proofs.Ytldancjofgobnaa.cn .f32 (floatOfInt .f32 n)) (Go.Proofs.Ytldancjofgobnaa.cn .f32 1090519040)) ((n : Rat) / 8) :=
  V.op .quo rfl (V.int .f32 n h).cn V8 (fun _ => by decide) (rep_eighth h)
end Go.Proofs.Ytldancjofgobnaa
