/-
  Which words are finite; shares; variadic calls with few numbers. No condition but what each law says.
-/
import Derived.Test.YtldancjofgobnaaHeat
set_option linter.unusedSimpArgs false
set_option linter.unusedVariables false
set_option linter.unusedSectionVars false
namespace Go.Proofs.Ytldancjofgobnaa
open Go Go.RowKit
/-- A number if all is valid and it is finite. -/
def gF (ok : Bool) (c : Nat) : Nat := if ok then chk c else cn .f32 0
def gB (ok : Bool) (c : Nat) : Bool := ok && fin .f32 c
theorem cn_chk {c : Nat} (h : cn .f32 c = c) : cn .f32 (chk c) = chk c := by unfold chk; split; exact h; exact cn_cn .f32 0
theorem cn_gF {ok : Bool} {c : Nat} (h : cn .f32 c = c) : cn .f32 (gF ok c) = gF ok c := by unfold gF; split; exact cn_chk h; exact cn_cn .f32 0
/-- Is a datum a number. -/
def isNum : Ieee.Datum → Bool | .number .. => true | _ => false
theorem fin_num (k : FloatKind) (c : Nat) : fin k c = isNum (k.decode c) := by
  unfold fin fop floatBits Ieee.Format.sub
  show feq k (((((k.decode c).sum (k.decode c).opposite).map k.format.write).getD (qn k))) (cn k 0) = _
  rw [cn_zero]
  cases hd : k.decode c with
  | nan s t =>
    simp only [Ieee.Datum.sum, Ieee.Datum.opposite, Option.map_none, Option.getD_none, isNum, feq]
    rw [order_nan_l (isN_qn k)]; rfl
  | infinity s =>
    have : (Ieee.Datum.infinity s).sum (Ieee.Datum.infinity s).opposite = none := by cases s <;> rfl
    rw [this]
    simp only [Option.map_none, Option.getD_none, isNum, feq]
    rw [order_nan_l (isN_qn k)]; rfl
  | number s m i =>
    have : (Ieee.Datum.number s m i).sum (Ieee.Datum.number s m i).opposite = some (.number false 0 (min i i)) := by
      simp only [Ieee.Datum.sum, Ieee.Datum.opposite]
      have h0 : Ieee.signed s m (i - min i i).toNat + Ieee.signed (!s) m (i - min i i).toNat = 0 := by
        cases s <;> simp [Ieee.signed] <;> omega
      rw [h0]
      cases s <;> rfl
    rw [this]
    have hw : k.format.write (.number false 0 (min i i)) = 0 := by
      simp [Ieee.Format.write, Ieee.Format.nearest, Ieee.Format.word]
    simp only [Option.map_some, Option.getD_some, hw, isNum, feq]
    rw [order_self (isN_lit k)]; rfl
theorem fin_decode {k : FloatKind} {c : Nat} (h : fin k c = true) : ∃ s m i, k.decode c = .number s m i := by
  rw [fin_num] at h
  cases hd : k.decode c <;> rw [hd] at h <;> first | exact ⟨_, _, _, rfl⟩ | cases h
theorem read_zero (k : FloatKind) : ∃ p, k.format.read 0 = .number false 0 p := by cases k <;> exact ⟨_, rfl⟩
theorem shr_fin (c : Nat) : shr c = (fin .f32 c && (!flt .f32 c (cn .f32 0) && !fgt .f32 c (cn .f32 1065353216))) := by
  have h1 : isN .f32 1065353216 = false := by decide +kernel
  have e1 : cn .f32 1065353216 = 1065353216 := cn_of_not h1
  unfold shr
  rw [cn_zero, e1]
  rcases hf : fin .f32 c
  · rw [fin_num] at hf
    have r1 : FloatKind.f32.format.read 1065353216 = .number false 8388608 (-23) := by decide +kernel
    obtain ⟨p0, r0⟩ := read_zero .f32
    have hd : FloatKind.f32.format.read c = FloatKind.f32.decode c := rfl
    unfold fge fle Ieee.Format.order
    rw [r0, r1, hd]
    cases hd : FloatKind.f32.decode c with
    | nan s t => rfl
    | infinity s => cases s <;> rfl
    | number s m i => rw [hd] at hf; cases hf
  · have hn := fin_not_nan hf
    rw [flt_not_fge hn (isN_lit .f32), fle_not_fgt hn h1]
    simp
theorem FS1 {w : World} {b x : Nat} (h : w.cell? ⟨b, 0, none⟩ = some (.float .f32 x)) : FS w (.slice (some ⟨b, 0, none⟩) 1 1) [x] := by
  refine FS_of (o := 0) (n := 1) (c := 1) rfl (by omega) (by omega) fun i hi => ?_
  obtain rfl : i = 0 := by omega
  exact h
theorem FS2 {w : World} {b x y : Nat} (h : w.cell? ⟨b, 0, none⟩ = some (.float .f32 x)) (h2 : w.cell? ⟨b, 1, none⟩ = some (.float .f32 y)) : FS w (.slice (some ⟨b, 0, none⟩) 2 2) [x, y] := by
  refine FS_of (o := 0) (n := 2) (c := 2) rfl (by omega) (by omega) fun i hi => ?_
  rcases (show i = 0 ∨ i = 1 by omega) with rfl | rfl
  · exact h
  · exact h2
theorem arePos1_any (x : Nat) (v : Value) (w : World) (hs : FS w v [x]) : Calls Try.prog 15 #[v] w (RB w (abv (cn .f32 x))) := by
  have h := arePositive_any [x] v w hs
  simp only [abv_neg, List.any_cons, List.any_nil, Bool.or_false, Bool.not_not] at h
  exact h
theorem areFin2_any (x y : Nat) (v : Value) (w : World) (hs : FS w v [x, y]) : Calls Try.prog 36 #[v] w (RB w (fin .f32 (cn .f32 x) && fin .f32 (cn .f32 y))) := by
  have h := areFinite_any [x, y] v w hs
  simp only [List.any_cons, List.any_nil, Bool.or_false, Bool.not_not, Bool.not_or] at h
  exact h
end Go.Proofs.Ytldancjofgobnaa
