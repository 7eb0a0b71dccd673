/-
  A list of an own rod in a variable made longer: what stands. No condition but what each contract says.
-/
import Derived.Test.YtgkcfeaknehopaaJoin2
set_option linter.unusedSimpArgs false
set_option linter.unusedVariables false
set_option linter.unusedSectionVars false
namespace Go.Proofs.Ytgkcfeaknehopaa
open Go Go.RowKit
open Go.ChangeShapes Go.WideShapes Go.ChangeAt Go.RowKit Go.Joins
theorem grown_setCell (w : World) (a : Addr) (v : Value) : w.grownBy (w.setCell a v) (some a.block) := ⟨rfl, rfl, rfl, by simp, fun k _ hk => Below.heap_setCell _ _ _ _ (fun e => hk (by rw [e]))⟩
/-- What a step keeps: an own list that lies apart from the one made longer, and from the variable. -/
theorem OF.stepped {B g o : Nat} {w w' : World} {u v x : Value} {xs : List Nat} (h : OF B w u xs) (hg : w.grownBy w' v.ownBlock) (ha : u.ownBlock = none ∨ u.ownBlock ≠ v.ownBlock) (hn : u.ownBlock ≠ some g) : OF B (w'.setCell ⟨g, o, none⟩ x) u xs :=
  (h.kept hg ha).kept (grown_setCell w' ⟨g, o, none⟩ x) (.inr hn)
theorem cell_stepped {g o : Nat} {w w' : World} {v : Value} (hg : w.grownBy w' v.ownBlock) (hz : g < w.heap.size) (hn : v.ownBlock ≠ some g) : w'.cell? ⟨g, o, none⟩ = w.cell? ⟨g, o, none⟩ :=
  World.cell?_of_block (hg.block g hz (Ne.symm hn))
theorem frozen_stepped {g o : Nat} {w w' : World} {v : Value} (hg : w.grownBy w' v.ownBlock) (hz : g < w.heap.size) (hn : v.ownBlock ≠ some g) : w'.frozen? ⟨g, o, none⟩ = w.frozen? ⟨g, o, none⟩ :=
  World.frozen?_of_block (hg.block g hz (Ne.symm hn))
theorem new_ne {g : Nat} {w : World} {v v' : Value} (hq : v'.ownBlock = v.ownBlock ∨ v'.ownBlock = some w.heap.size) (hn : v.ownBlock ≠ some g) (hz : g < w.heap.size) : v'.ownBlock ≠ some g := by
  rcases hq with h | h
  · rw [h]; exact hn
  · rw [h]; intro e; simp at e; omega
theorem JS.step1 {B g : Nat} {w w' : World} {a b c d zs : List Nat} {p1 p2 p3 p4 q : Option Addr} {c1 c2 c3 c4 k : Nat} (h : JS B g w ⟨a, b, c, d⟩ ⟨p1, c1, p2, c2, p3, c3, p4, c4⟩) (hO : OF B w' (.slice q (a ++ zs).length k) (a ++ zs)) (hg : w.grownBy w' (Value.slice p1 a.length c1).ownBlock) (hq : (Value.slice q (a ++ zs).length k).ownBlock = (Value.slice p1 a.length c1).ownBlock ∨ (Value.slice q (a ++ zs).length k).ownBlock = some w.heap.size) : JS B g (w'.setCell ⟨g, 0, none⟩ (.slice q (a ++ zs).length k)) ⟨a ++ zs, b, c, d⟩ ⟨q, k, p2, c2, p3, c3, p4, c4⟩ := by
  obtain ⟨⟨⟨⟨o1, o2, o3, o4⟩, a12, a13, a14, a23, a24, a34⟩, ⟨d1, d2, d3, d4⟩, hf, hz⟩, n1, n2, n3, n4⟩ := h
  have nq := new_ne hq n1 hz
  have hz' : g < w'.heap.size := Nat.lt_of_lt_of_le hz hg.size
  refine ⟨⟨⟨⟨hO.kept (grown_setCell w' ⟨g, 0, none⟩ _) (.inr nq), o2.stepped hg a12.symm.row n2, o3.stepped hg a13.symm.row n3, o4.stepped hg a14.symm.row n4⟩, (Ap.of_row (apart_new (n := 0) o2 a12.symm.row hq)).symm, (Ap.of_row (apart_new (n := 0) o3 a13.symm.row hq)).symm, (Ap.of_row (apart_new (n := 0) o4 a14.symm.row hq)).symm, a23, a24, a34⟩, ⟨?_, ?_, ?_, ?_⟩, fun o => ?_, by rw [World.size_setCell]; exact hz'⟩, nq, n2, n3, n4⟩
  · exact World.cell?_setCell_same _ _ _ ((cell_stepped hg hz n1).trans d1)
  · exact (World.cell?_setCell_other _ _ _ _ (by simp)).trans ((cell_stepped hg hz n1).trans d2)
  · exact (World.cell?_setCell_other _ _ _ _ (by simp)).trans ((cell_stepped hg hz n1).trans d3)
  · exact (World.cell?_setCell_other _ _ _ _ (by simp)).trans ((cell_stepped hg hz n1).trans d4)
  · rw [World.frozen?_setCell]; exact (frozen_stepped hg hz n1).trans (hf o)
theorem JS.step2 {B g : Nat} {w w' : World} {a b c d zs : List Nat} {p1 p2 p3 p4 q : Option Addr} {c1 c2 c3 c4 k : Nat} (h : JS B g w ⟨a, b, c, d⟩ ⟨p1, c1, p2, c2, p3, c3, p4, c4⟩) (hO : OF B w' (.slice q (b ++ zs).length k) (b ++ zs)) (hg : w.grownBy w' (Value.slice p2 b.length c2).ownBlock) (hq : (Value.slice q (b ++ zs).length k).ownBlock = (Value.slice p2 b.length c2).ownBlock ∨ (Value.slice q (b ++ zs).length k).ownBlock = some w.heap.size) : JS B g (w'.setCell ⟨g, 1, none⟩ (.slice q (b ++ zs).length k)) ⟨a, b ++ zs, c, d⟩ ⟨p1, c1, q, k, p3, c3, p4, c4⟩ := by
  obtain ⟨⟨⟨⟨o1, o2, o3, o4⟩, a12, a13, a14, a23, a24, a34⟩, ⟨d1, d2, d3, d4⟩, hf, hz⟩, n1, n2, n3, n4⟩ := h
  have nq := new_ne hq n2 hz
  have hz' : g < w'.heap.size := Nat.lt_of_lt_of_le hz hg.size
  refine ⟨⟨⟨⟨o1.stepped hg a12.row n1, hO.kept (grown_setCell w' ⟨g, 1, none⟩ _) (.inr nq), o3.stepped hg a23.symm.row n3, o4.stepped hg a24.symm.row n4⟩, Ap.of_row (apart_new (n := 0) o1 a12.row hq), a13, a14, (Ap.of_row (apart_new (n := 0) o3 a23.symm.row hq)).symm, (Ap.of_row (apart_new (n := 0) o4 a24.symm.row hq)).symm, a34⟩, ⟨?_, ?_, ?_, ?_⟩, fun o => ?_, by rw [World.size_setCell]; exact hz'⟩, n1, nq, n3, n4⟩
  · exact (World.cell?_setCell_other _ _ _ _ (by simp)).trans ((cell_stepped hg hz n2).trans d1)
  · exact World.cell?_setCell_same _ _ _ ((cell_stepped hg hz n2).trans d2)
  · exact (World.cell?_setCell_other _ _ _ _ (by simp)).trans ((cell_stepped hg hz n2).trans d3)
  · exact (World.cell?_setCell_other _ _ _ _ (by simp)).trans ((cell_stepped hg hz n2).trans d4)
  · rw [World.frozen?_setCell]; exact (frozen_stepped hg hz n2).trans (hf o)
theorem JS.step3 {B g : Nat} {w w' : World} {a b c d zs : List Nat} {p1 p2 p3 p4 q : Option Addr} {c1 c2 c3 c4 k : Nat} (h : JS B g w ⟨a, b, c, d⟩ ⟨p1, c1, p2, c2, p3, c3, p4, c4⟩) (hO : OF B w' (.slice q (c ++ zs).length k) (c ++ zs)) (hg : w.grownBy w' (Value.slice p3 c.length c3).ownBlock) (hq : (Value.slice q (c ++ zs).length k).ownBlock = (Value.slice p3 c.length c3).ownBlock ∨ (Value.slice q (c ++ zs).length k).ownBlock = some w.heap.size) : JS B g (w'.setCell ⟨g, 2, none⟩ (.slice q (c ++ zs).length k)) ⟨a, b, c ++ zs, d⟩ ⟨p1, c1, p2, c2, q, k, p4, c4⟩ := by
  obtain ⟨⟨⟨⟨o1, o2, o3, o4⟩, a12, a13, a14, a23, a24, a34⟩, ⟨d1, d2, d3, d4⟩, hf, hz⟩, n1, n2, n3, n4⟩ := h
  have nq := new_ne hq n3 hz
  have hz' : g < w'.heap.size := Nat.lt_of_lt_of_le hz hg.size
  refine ⟨⟨⟨⟨o1.stepped hg a13.row n1, o2.stepped hg a23.row n2, hO.kept (grown_setCell w' ⟨g, 2, none⟩ _) (.inr nq), o4.stepped hg a34.symm.row n4⟩, a12, Ap.of_row (apart_new (n := 0) o1 a13.row hq), a14, Ap.of_row (apart_new (n := 0) o2 a23.row hq), a24, (Ap.of_row (apart_new (n := 0) o4 a34.symm.row hq)).symm⟩, ⟨?_, ?_, ?_, ?_⟩, fun o => ?_, by rw [World.size_setCell]; exact hz'⟩, n1, n2, nq, n4⟩
  · exact (World.cell?_setCell_other _ _ _ _ (by simp)).trans ((cell_stepped hg hz n3).trans d1)
  · exact (World.cell?_setCell_other _ _ _ _ (by simp)).trans ((cell_stepped hg hz n3).trans d2)
  · exact World.cell?_setCell_same _ _ _ ((cell_stepped hg hz n3).trans d3)
  · exact (World.cell?_setCell_other _ _ _ _ (by simp)).trans ((cell_stepped hg hz n3).trans d4)
  · rw [World.frozen?_setCell]; exact (frozen_stepped hg hz n3).trans (hf o)
theorem JS.step4 {B g : Nat} {w w' : World} {a b c d zs : List Nat} {p1 p2 p3 p4 q : Option Addr} {c1 c2 c3 c4 k : Nat} (h : JS B g w ⟨a, b, c, d⟩ ⟨p1, c1, p2, c2, p3, c3, p4, c4⟩) (hO : OF B w' (.slice q (d ++ zs).length k) (d ++ zs)) (hg : w.grownBy w' (Value.slice p4 d.length c4).ownBlock) (hq : (Value.slice q (d ++ zs).length k).ownBlock = (Value.slice p4 d.length c4).ownBlock ∨ (Value.slice q (d ++ zs).length k).ownBlock = some w.heap.size) : JS B g (w'.setCell ⟨g, 3, none⟩ (.slice q (d ++ zs).length k)) ⟨a, b, c, d ++ zs⟩ ⟨p1, c1, p2, c2, p3, c3, q, k⟩ := by
  obtain ⟨⟨⟨⟨o1, o2, o3, o4⟩, a12, a13, a14, a23, a24, a34⟩, ⟨d1, d2, d3, d4⟩, hf, hz⟩, n1, n2, n3, n4⟩ := h
  have nq := new_ne hq n4 hz
  have hz' : g < w'.heap.size := Nat.lt_of_lt_of_le hz hg.size
  refine ⟨⟨⟨⟨o1.stepped hg a14.row n1, o2.stepped hg a24.row n2, o3.stepped hg a34.row n3, hO.kept (grown_setCell w' ⟨g, 3, none⟩ _) (.inr nq)⟩, a12, a13, Ap.of_row (apart_new (n := 0) o1 a14.row hq), a23, Ap.of_row (apart_new (n := 0) o2 a24.row hq), Ap.of_row (apart_new (n := 0) o3 a34.row hq)⟩, ⟨?_, ?_, ?_, ?_⟩, fun o => ?_, by rw [World.size_setCell]; exact hz'⟩, n1, n2, n3, nq⟩
  · exact (World.cell?_setCell_other _ _ _ _ (by simp)).trans ((cell_stepped hg hz n4).trans d1)
  · exact (World.cell?_setCell_other _ _ _ _ (by simp)).trans ((cell_stepped hg hz n4).trans d2)
  · exact (World.cell?_setCell_other _ _ _ _ (by simp)).trans ((cell_stepped hg hz n4).trans d3)
  · exact World.cell?_setCell_same _ _ _ ((cell_stepped hg hz n4).trans d4)
  · rw [World.frozen?_setCell]; exact (frozen_stepped hg hz n4).trans (hf o)
end Go.Proofs.Ytgkcfeaknehopaa
