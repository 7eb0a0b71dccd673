/-
  Numbers of a plate: gains, mean, range (the program's and the reference's), and the laws on them. No condition.
-/
import Derived.Test.YtphamdlnnfionaaPlIs
import Derived.Test.YtphamdlnnfionaaAcc
set_option linter.unusedSimpArgs false
set_option linter.unusedVariables false
set_option linter.unusedSectionVars false
namespace Go.Proofs.Ytphamdlnnfionaa
open Go Go.RowKit
open Go.ChangeShapes Go.WideShapes Go.ChangeAt Go.RowKit Go.Joins
theorem Pl.ok_len {P : Pl} (h : P.ok = true) : (1 ≤ P.W ∧ P.W ≤ 12) ∧ (1 ≤ P.H ∧ P.H ≤ 12) ∧ (P.a.length : Int) = P.W * P.H ∧ (P.b.length : Int) = P.W * P.H ∧ (P.c.length : Int) = P.W * P.H ∧ (P.d.length : Int) = P.W * P.H := by
  unfold Pl.ok Pl.sized Pl.n at h
  simp only [Bool.and_eq_true, decide_eq_true_eq] at h
  exact ⟨inB_iff h.1, inB_iff h.2.1, h.2.2.1.1, h.2.2.1.2.1, h.2.2.1.2.2.1, h.2.2.1.2.2.2⟩
/-- A valid plate, seen. -/
theorem Pl.view {P : Pl} {w : World} {l : Lay} (hs : P.fs w l) (h : P.ok = true) : ∃ b1 o1 c1 b2 o2 c2 b3 o3 c3 b4 o4 c4, l = ⟨some ⟨b1, o1, none⟩, c1, some ⟨b2, o2, none⟩, c2, some ⟨b3, o3, none⟩, c3, some ⟨b4, o4, none⟩, c4⟩ ∧
    ((P.a.length ≤ c1 ∧ c1 ≤ 9223372036854775807) ∧ (P.b.length ≤ c2 ∧ c2 ≤ 9223372036854775807) ∧ (P.c.length ≤ c3 ∧ c3 ≤ 9223372036854775807) ∧ (P.d.length ≤ c4 ∧ c4 ≤ 9223372036854775807)) ∧
    Hid (∀ i, i < P.a.length → w.cell? ⟨b1, o1 + i, none⟩ = some (.float .f32 (P.a.getD i 0))) ∧ Hid (∀ i, i < P.b.length → w.cell? ⟨b2, o2 + i, none⟩ = some (.float .f32 (P.b.getD i 0))) ∧
    Hid (∀ i, i < P.c.length → w.cell? ⟨b3, o3 + i, none⟩ = some (.float .f32 (P.c.getD i 0))) ∧ Hid (∀ i, i < P.d.length → w.cell? ⟨b4, o4 + i, none⟩ = some (.bool (P.d.getD i false))) := by
  obtain ⟨hW, hH, e1, e2, e3, e4⟩ := Pl.ok_len h
  have hn : 1 ≤ P.W * P.H := by
    have := Int.mul_le_mul hW.1 hH.1 (by omega) (by omega); omega
  obtain ⟨s1, s2, s3, s4⟩ := hs
  obtain ⟨q1, d1, z1, x1, y1, V1⟩ := FS_view s1
  obtain ⟨q2, d2, z2, x2, y2, V2⟩ := FS_view s2
  obtain ⟨q3, d3, z3, x3, y3, V3⟩ := FS_view s3
  obtain ⟨q4, d4, z4, x4, y4, V4⟩ := BS_view s4
  cases z1
  cases z2
  cases z3
  cases z4
  obtain ⟨b1, o1, r1, _⟩ := V1 0 (by omega)
  obtain ⟨b2, o2, r2, _⟩ := V2 0 (by omega)
  obtain ⟨b3, o3, r3, _⟩ := V3 0 (by omega)
  obtain ⟨b4, o4, r4, _⟩ := V4 0 (by omega)
  obtain ⟨p1, c1, p2, c2, p3, c3, p4, c4⟩ := l
  dsimp only at r1 r2 r3 r4
  subst r1 r2 r3 r4
  refine ⟨b1, o1, c1, b2, o2, c2, b3, o3, c3, b4, o4, c4, rfl, ⟨⟨y1, x1⟩, ⟨y2, x2⟩, ⟨y3, x3⟩, ⟨y4, x4⟩⟩, fun i hi => ?_, fun i hi => ?_, fun i hi => ?_, fun i hi => ?_⟩
  · obtain ⟨b, o, r, hc⟩ := V1 i hi
    cases r; exact hc
  · obtain ⟨b, o, r, hc⟩ := V2 i hi
    cases r; exact hc
  · obtain ⟨b, o, r, hc⟩ := V3 i hi
    cases r; exact hc
  · obtain ⟨b, o, r, hc⟩ := V4 i hi
    cases r; exact hc
theorem PlAt.later {P : Pl} {l : Lay} {w w' : World} {b o B : Nat} (h : PlAt P l w b o) (hb : Below B w w') (hB : b < B) : PlAt P l w' b o :=
  ⟨(hb.cell hB).trans h.1, (hb.cell hB).trans h.2.1, (hb.cell hB).trans h.2.2.1, (hb.cell hB).trans h.2.2.2.1, (hb.cell hB).trans h.2.2.2.2.1, (hb.cell hB).trans h.2.2.2.2.2⟩
/-- What is gained in the first cells. -/
def gainA (P : Pl) : Nat → Nat
  | 0 => cn .f32 0
  | k + 1 => if P.d.getD k false then gainA P k else fop .add .f32 (gainA P k) (cn .f32 (P.c.getD k 0))
theorem cn_gainA (P : Pl) : ∀ k, cn .f32 (gainA P k) = gainA P k
  | 0 => cn_cn .f32 0
  | k + 1 => by unfold gainA; split; exact cn_gainA P k; exact cn_fop _ _ _ _
theorem gainA_held {P : Pl} {k : Nat} (h : P.d.getD k false = true) : gainA P (k + 1) = gainA P k := by simp only [gainA]; rw [if_pos h]
theorem gainA_free {P : Pl} {k : Nat} (h : P.d.getD k false = false) : gainA P (k + 1) = fop .add .f32 (gainA P k) (cn .f32 (P.c.getD k 0)) := by simp only [gainA]; rw [if_neg (by rw [h]; simp)]
end Go.Proofs.Ytphamdlnnfionaa
