/-
  How this seat's bars and slices of numbers are opened to their cells. No condition.
-/
import Derived.Test.YtiodpahbmoeiaaaSl
import Derived.Deep.Slices
set_option linter.unusedSimpArgs false
set_option linter.unusedVariables false
set_option linter.unusedSectionVars false
namespace Go.Proofs.Ytiodpahbmoeiaaa
open Go Go.RowKit
open Go.ChangeShapes Go.WideShapes Go.ChangeAt Go.RowKit Go.Joins
theorem spot_none {w : World} {a : Addr} {v : Value} (h : w.cell? a = some v) : a.spot = none := by
  unfold World.cell? at h
  split at h
  · split at h
    · cases h
    · rename_i hs; simpa using hs
  · cases h
def wordOf : Value → Nat | .float _ b => b | _ => 0
section
variable {H : Type} {enc : TypeId × Value → H} {P : Program} {w : World} {base : Nat} {spare : Nat → Bool} {held : Bool}
theorem open_floats {t e : TypeId} {fuel : Nat} {cs : List Value} {x : DataW H × List MemPlace} (ht : P.underlying t = some (.slice e)) (he : P.underlying e = some (.float .f32)) (hc : P.cellsOf e = 1)
    (h : DataW.trod enc P w base spare held fuel t cs = some x) : ∃ v xs, cs = [v] ∧ FS w v xs ∧ ∀ j, xs.getD j 0 < 4294967296 := by
  rcases Deep.open_slice1 ht hc h with ⟨rfl, _⟩ | ⟨a, len, cap, m, n, V, D, Pl, rfl, _, hl, hm, hmm, _, hx⟩
  · exact ⟨_, [], rfl, ⟨none, 0, rfl, by omega, by simp, fun i hi => by simp at hi⟩, fun j => by simp⟩
  · have hlm : len ≤ m := by rw [hmm]; split <;> omega
    have hV : ∀ i, i < len → V i = .float .f32 (wordOf (V i)) ∧ wordOf (V i) < 4294967296 := fun i hi => by
      obtain ⟨b, e1, e2⟩ := trod_float he (hx i (by omega)).2
      simp only [List.cons.injEq, and_true] at e1
      rw [e1]
      exact ⟨rfl, by simpa [wordOf, Lit.wf] using e2⟩
    refine ⟨_, (List.range len).map fun i => wordOf (V i), rfl, ⟨some a, cap, by simp, by simpa [maxLen] using hm, by simpa using hl, fun i hi => ?_⟩, fun j => ?_⟩
    · have hi : i < len := by simpa using hi
      have h0 : a.spot = none := by
        have := spot_none (hx 0 (by omega)).1
        simpa [Addr.add] using this
      obtain ⟨b, o, sp⟩ := a
      have h0 : sp = none := h0
      subst h0
      refine ⟨b, o, rfl, ?_⟩
      have h1 := (hx i (by omega)).1
      rw [(hV i hi).1] at h1
      have e3 : (⟨b, o, none⟩ : Addr).add i = ⟨b, o + i, none⟩ := by
        unfold Addr.add
        split
        · rename_i h; subst h; rfl
        · rfl
      rw [e3] at h1
      rw [h1]
      simp [hi]
    · by_cases hj : j < len
      · simp [hj, (hV j hj).2]
      · simp [hj]
/-- A struct's cells: each field's own reading of them. -/
theorem cells_struct {fuel : Nat} {t : TypeId} {fs : Array Field} {cs : List Value} {x : DataW H × List MemPlace} (hs : P.underlying t = some (.struct fs)) (h : DataW.trod enc P w base spare held fuel t cs = some x) :
    ∃ n, ∀ (i : Nat) (f : Field), fs[i]? = some f → ∃ y, DataW.trod enc P w base spare held n f.type ((cs.drop f.offset).take (P.cellsOf f.type)) = some y := by
  obtain ⟨xs, n, _, _, _, hlen, hg⟩ := DataW.trod_struct hs h
  refine ⟨n, fun i f hi => ?_⟩
  have hl : i < xs.length := by rw [hlen]; exact (Array.getElem?_eq_some_iff.1 hi).1
  exact ⟨xs[i], (hg i f hi).trans (List.getElem?_eq_getElem hl)⟩
end
set_option maxRecDepth 100000 in
theorem Try.cellsF : Try.prog.cellsOf 22 = 1 := by kernel_rfl
set_option maxRecDepth 100000 in
theorem Try.cellsFs : Try.prog.cellsOf 38 = 1 := by kernel_rfl
section
variable {H : Type} {enc : TypeId × Value → H} {w : World} {base : Nat} {spare : Nat → Bool} {held : Bool}
set_option maxRecDepth 100000 in
theorem open_F {r : Reach} {b0 : Nat} {v : Value} {d : DataW H} {p : List MemPlace} (hv : Value.okWide Try.prog w r b0 38 v) (h : DataW.Trod enc Try.prog w base spare held 38 v d p) :
    ∃ xs, (FS w v xs ∧ ∀ j, xs.getD j 0 < 4294967296) := by
  obtain ⟨fuel, hf⟩ := h
  obtain ⟨u, xs, e, h1, h2⟩ := open_floats Try.underlying38 Try.underlying22 Try.cellsF hf
  obtain ⟨a, l, c, rfl⟩ := okWide_slice Try.underlying38 hv
  simp [Value.cells] at e
  exact ⟨xs, by rw [e]; exact h1, h2⟩
end
end Go.Proofs.Ytiodpahbmoeiaaa
