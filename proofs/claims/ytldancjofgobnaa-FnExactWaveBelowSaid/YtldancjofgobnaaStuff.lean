/-
  Stuffs: which are valid (the program's and the reference's), each function proved once. No condition but what each contract says.
-/
import Derived.Test.YtldancjofgobnaaNum
set_option linter.unusedSimpArgs false
set_option linter.unusedVariables false
set_option linter.unusedSectionVars false
namespace Go.Proofs.Ytldancjofgobnaa
open Go Go.RowKit
theorem chain6 (b0 b1 b2 b3 b4 : Bool) : (b0 = false) ∨ (b0 = true ∧ b1 = false) ∨ (b0 = true ∧ b1 = true ∧ b2 = false) ∨ (b0 = true ∧ b1 = true ∧ b2 = true ∧ b3 = false) ∨ (b0 = true ∧ b1 = true ∧ b2 = true ∧ b3 = true ∧ b4 = false) ∨ (b0 = true ∧ b1 = true ∧ b2 = true ∧ b3 = true ∧ b4 = true) := by
  cases b0 <;> cases b1 <;> cases b2 <;> cases b3 <;> cases b4 <;> simp
/-- Is a stuff valid. -/
def St.ok (s : St) : Bool := abv (cn .f32 s.a) && (abv (cn .f32 s.b) && (abv (cn .f32 s.c) && (abv (cn .f32 s.d) && (fin .f32 (cn .f32 s.p) && abv (cn .f32 s.l)))))
/-- A stuff's cells in memory. -/
def St.at (s : St) (w : World) (b o : Nat) : Prop := w.cell? ⟨b, o, none⟩ = some (.float .f32 s.a) ∧ w.cell? ⟨b, o + 1, none⟩ = some (.float .f32 s.b) ∧ w.cell? ⟨b, o + 2, none⟩ = some (.float .f32 s.c) ∧
  w.cell? ⟨b, o + 3, none⟩ = some (.float .f32 s.d) ∧ w.cell? ⟨b, o + 4, none⟩ = some (.float .f32 s.p) ∧ w.cell? ⟨b, o + 5, none⟩ = some (.float .f32 s.l)
theorem fin_not_nan {k : FloatKind} {c : Nat} (h : fin k c = true) : isN k c = false := by
  cases hn : isN k c with
  | false => rfl
  | true =>
    unfold fin fop at h
    rw [floatBits_nan_l hn] at h
    simp only [Option.getD_none, feq] at h
    rw [order_nan_l (isN_qn k)] at h
    cases h
theorem isN_lit (k : FloatKind) : isN k 0 = false := by cases k <;> decide +kernel
theorem cn_zero (k : FloatKind) : cn k 0 = 0 := cn_of_not (isN_lit k)
theorem order_total {k : FloatKind} {x y : Nat} (hx : isN k x = false) (hy : isN k y = false) : k.format.order x y ≠ none := by
  unfold isN FloatKind.decode at hx hy
  unfold Ieee.Format.order
  cases h1 : k.format.read x <;> rw [h1] at hx <;> cases h2 : k.format.read y <;> rw [h2] at hy <;> simp_all [Ieee.Datum.isNaN, Ieee.Datum.order]
theorem fle_not_fgt {k : FloatKind} {x y : Nat} (hx : isN k x = false) (hy : isN k y = false) : fle k x y = !fgt k x y := by
  unfold fle fgt
  cases h : k.format.order x y with
  | none => exact absurd h (order_total hx hy)
  | some o => cases o <;> rfl
theorem flt_not_fge {k : FloatKind} {x y : Nat} (hx : isN k x = false) (hy : isN k y = false) : flt k x y = !fge k x y := by
  unfold flt fge
  cases h : k.format.order x y with
  | none => exact absurd h (order_total hx hy)
  | some o => cases o <;> rfl
theorem abv_neg (c : Nat) : (!fin .f32 c || fle .f32 c (cn .f32 0)) = !abv c := by
  unfold abv
  cases h : fin .f32 c with
  | false => rfl
  | true => simp [fle_not_fgt (fin_not_nan h) (by rw [isN_cn]; exact isN_lit _)]
theorem FS_of {w : World} {b o n c : Nat} {xs : List Nat} (hn : xs.length = n) (hc : n ≤ c) (hm : c ≤ 9223372036854775807) (h : ∀ i, i < n → w.cell? ⟨b, o + i, none⟩ = some (.float .f32 (xs.getD i 0))) : FS w (.slice (some ⟨b, o, none⟩) n c) xs := by
  subst hn
  exact ⟨_, c, rfl, hm, hc, fun i hi => ⟨b, o, rfl, h i hi⟩⟩
end Go.Proofs.Ytldancjofgobnaa
