/-
  Rods: how they are opened to their cells. No condition but what each contract says.
-/
import Derived.Test.YtgkcfeaknehopaaPrTurn
import Derived.Test.YtgkcfeaknehopaaPrOpenB
set_option linter.unusedSimpArgs false
set_option linter.unusedVariables false
set_option linter.unusedSectionVars false
namespace Go.Proofs.Ytgkcfeaknehopaa
open Go Go.RowKit
open Go.ChangeShapes Go.WideShapes Go.ChangeAt Go.RowKit Go.Joins
/-- What a rod tells; where its lists lie. -/
structure Rd where
  a : List Nat
  b : List Nat
  c : List Nat
  d : List Nat
structure RL where
  p1 : Option Addr
  c1 : Nat
  p2 : Option Addr
  c2 : Nat
  p3 : Option Addr
  c3 : Nat
  p4 : Option Addr
  c4 : Nat
def Rd.fs (P : Rd) (w : World) (l : RL) : Prop := FS w (.slice l.p1 P.a.length l.c1) P.a ∧ FS w (.slice l.p2 P.b.length l.c2) P.b ∧ FS w (.slice l.p3 P.c.length l.c3) P.c ∧ FS w (.slice l.p4 P.d.length l.c4) P.d
def Rd.own (P : Rd) (B : Nat) (w : World) (l : RL) : Prop := OF B w (.slice l.p1 P.a.length l.c1) P.a ∧ OF B w (.slice l.p2 P.b.length l.c2) P.b ∧ OF B w (.slice l.p3 P.c.length l.c3) P.c ∧ OF B w (.slice l.p4 P.d.length l.c4) P.d
/-- A rod's cells in memory. -/
def RdAt (P : Rd) (l : RL) (w : World) (b o : Nat) : Prop := w.cell? ⟨b, o, none⟩ = some (.slice l.p1 P.a.length l.c1) ∧ w.cell? ⟨b, o + 1, none⟩ = some (.slice l.p2 P.b.length l.c2) ∧ w.cell? ⟨b, o + 2, none⟩ = some (.slice l.p3 P.c.length l.c3) ∧ w.cell? ⟨b, o + 3, none⟩ = some (.slice l.p4 P.d.length l.c4)
def Rd.wf (P : Rd) : Prop := (∀ j, P.a.getD j 0 < 4294967296) ∧ (∀ j, P.b.getD j 0 < 4294967296) ∧ (∀ j, P.c.getD j 0 < 4294967296) ∧ ∀ j, P.d.getD j 0 < 4294967296
section
variable {P : Rd} {B : Nat} {w w' : World} {l : RL}
theorem Rd.fs.later (h : P.fs w l) (hb : Below w.heap.size w w') : P.fs w' l := ⟨h.1.later hb, h.2.1.later hb, h.2.2.1.later hb, h.2.2.2.later hb⟩
theorem Rd.own.later (h : P.own B w l) (hb : Below w.heap.size w w') : P.own B w' l := ⟨h.1.later hb, h.2.1.later hb, h.2.2.1.later hb, h.2.2.2.later hb⟩
theorem Rd.own.base {B' : Nat} (h : P.own B w l) (hB : B' ≤ B) : P.own B' w l := ⟨h.1.base hB, h.2.1.base hB, h.2.2.1.base hB, h.2.2.2.base hB⟩
theorem Rd.own.fs (h : P.own B w l) : P.fs w l := ⟨h.1.fs, h.2.1.fs, h.2.2.1.fs, h.2.2.2.fs⟩
theorem Rd.own.setCell (h : P.own B w l) {a : Addr} (ha : a.block < B) (v : Value) : P.own B (w.setCell a v) l := ⟨h.1.setCell ha v, h.2.1.setCell ha v, h.2.2.1.setCell ha v, h.2.2.2.setCell ha v⟩
theorem Rd.own.alloc (h : P.own B w l) (o : Obj) : P.own B (w.alloc o) l := ⟨h.1.alloc o, h.2.1.alloc o, h.2.2.1.alloc o, h.2.2.2.alloc o⟩
theorem Rd.own.drewN (h : P.own B w l) (n : Nat) : P.own B (w.drewN n) l := ⟨h.1.drewN n, h.2.1.drewN n, h.2.2.1.drewN n, h.2.2.2.drewN n⟩
end
def rdV (P : Rd) (l : RL) : Value := .agg #[.slice l.p1 P.a.length l.c1, .slice l.p2 P.b.length l.c2, .slice l.p3 P.c.length l.c3, .slice l.p4 P.d.length l.c4]
theorem rdV_inj {P : Rd} {l m : RL} (h : rdV P l = rdV P m) : l = m := by
  obtain ⟨⟩ := l
  obtain ⟨⟩ := m
  simp [rdV] at h
  simp [h]
/-- In a plan: a call that hands back a rod of its own. -/
def Clm.rod (P : Rd) (B : Nat) : Clm := ⟨1, fun _ v => ∃ l, v = rdV P l, fun _ v w => ∀ l, v = rdV P l → P.own B w l, fun _ => ⟨_, ⟨none, 0, none, 0, none, 0, none, 0⟩, rfl⟩,
  fun _ v w w' h hb u e => (h u e).later hb, fun h => nomatch h⟩
set_option maxRecDepth 100000 in
theorem Try.cellsRod : Try.prog.cellsOf 24 = 4 := by kernel_rfl
section
variable {H : Type} {enc : TypeId × Value → H} {w : World} {base : Nat} {spare : Nat → Bool} {held : Bool}
set_option maxRecDepth 100000 in
theorem open_Rod {r : Reach} {b0 : Nat} {v : Value} {d : DataW H} {p : List MemPlace} (hv : Value.okWide Try.prog w r b0 24 v) (h : DataW.Trod enc Try.prog w base spare held 24 v d p) :
    ∃ (P : Rd) (l : RL), v = .agg #[.slice l.p1 P.a.length l.c1, .slice l.p2 P.b.length l.c2, .slice l.p3 P.c.length l.c3, .slice l.p4 P.d.length l.c4] ∧ (P.fs w l ∧ P.wf) := by
  obtain ⟨cs, n, rfl, hl, hg⟩ := open_cells Try.underlying24 hv h
  rw [Try.cellsRod] at hl
  match cs, hl with
  | [v0, v1, v2, v3], _ =>
    obtain ⟨x0, g0⟩ : ∃ x, DataW.trod enc Try.prog w base spare held n 22 (([v0, v1, v2, v3].drop 0).take (Try.prog.cellsOf 22)) = some x := hg 0 _ rfl
    obtain ⟨x1, g1⟩ : ∃ x, DataW.trod enc Try.prog w base spare held n 22 (([v0, v1, v2, v3].drop 1).take (Try.prog.cellsOf 22)) = some x := hg 1 _ rfl
    obtain ⟨x2, g2⟩ : ∃ x, DataW.trod enc Try.prog w base spare held n 22 (([v0, v1, v2, v3].drop 2).take (Try.prog.cellsOf 22)) = some x := hg 2 _ rfl
    obtain ⟨x3, g3⟩ : ∃ x, DataW.trod enc Try.prog w base spare held n 22 (([v0, v1, v2, v3].drop 3).take (Try.prog.cellsOf 22)) = some x := hg 3 _ rfl
    rw [Try.cellsFs] at g0 g1 g2 g3
    obtain ⟨u0, xs0, e0, h0, k0⟩ := open_floats Try.underlying22 Try.underlying25 Try.cellsF g0
    obtain ⟨u1, xs1, e1, h1, k1⟩ := open_floats Try.underlying22 Try.underlying25 Try.cellsF g1
    obtain ⟨u2, xs2, e2, h2, k2⟩ := open_floats Try.underlying22 Try.underlying25 Try.cellsF g2
    obtain ⟨u3, xs3, e3, h3, k3⟩ := open_floats Try.underlying22 Try.underlying25 Try.cellsF g3
    simp only [List.drop_zero, List.drop_succ_cons, List.take_succ_cons, List.take_zero, List.cons.injEq, and_true] at e0 e1 e2 e3
    subst e0 e1 e2 e3
    obtain ⟨q0, d0, rfl, r0⟩ := h0
    obtain ⟨q1, d1, rfl, r1⟩ := h1
    obtain ⟨q2, d2, rfl, r2⟩ := h2
    obtain ⟨q3, d3, rfl, r3⟩ := h3
    exact ⟨⟨xs0, xs1, xs2, xs3⟩, ⟨q0, d0, q1, d1, q2, d2, q3, d3⟩, rfl, ⟨⟨_, _, rfl, r0⟩, ⟨_, _, rfl, r1⟩, ⟨_, _, rfl, r2⟩, ⟨_, _, rfl, r3⟩⟩, k0, k1, k2, k3⟩
end
end Go.Proofs.Ytgkcfeaknehopaa
