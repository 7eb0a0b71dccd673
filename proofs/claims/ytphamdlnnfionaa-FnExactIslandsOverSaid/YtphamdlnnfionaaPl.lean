/-
  Plates: how they are opened to their cells; the laws' own helpers for plates. No condition but what each contract says.
-/
import Derived.Test.YtphamdlnnfionaaBl
import Derived.Test.YtphamdlnnfionaaOpenB
set_option linter.unusedSimpArgs false
set_option linter.unusedVariables false
set_option linter.unusedSectionVars false
namespace Go.Proofs.Ytphamdlnnfionaa
open Go Go.RowKit
open Go.ChangeShapes Go.WideShapes Go.ChangeAt Go.RowKit Go.Joins
/-- What a plate tells; where its lists lie. -/
structure Pl where
  W : Int
  H : Int
  a : List Nat
  b : List Nat
  c : List Nat
  d : List Bool
structure Lay where
  p1 : Option Addr
  c1 : Nat
  p2 : Option Addr
  c2 : Nat
  p3 : Option Addr
  c3 : Nat
  p4 : Option Addr
  c4 : Nat
def Pl.fs (P : Pl) (w : World) (l : Lay) : Prop := FS w (.slice l.p1 P.a.length l.c1) P.a ∧ FS w (.slice l.p2 P.b.length l.c2) P.b ∧ FS w (.slice l.p3 P.c.length l.c3) P.c ∧ BS w (.slice l.p4 P.d.length l.c4) P.d
def Pl.own (P : Pl) (B : Nat) (w : World) (l : Lay) : Prop := OF B w (.slice l.p1 P.a.length l.c1) P.a ∧ OF B w (.slice l.p2 P.b.length l.c2) P.b ∧ OF B w (.slice l.p3 P.c.length l.c3) P.c ∧ OL B w (.slice l.p4 P.d.length l.c4) P.d
/-- A plate's cells in memory. -/
def PlAt (P : Pl) (l : Lay) (w : World) (b o : Nat) : Prop := w.cell? ⟨b, o, none⟩ = some (.int .i64 P.W) ∧ w.cell? ⟨b, o + 1, none⟩ = some (.int .i64 P.H) ∧ w.cell? ⟨b, o + 2, none⟩ = some (.slice l.p1 P.a.length l.c1) ∧ w.cell? ⟨b, o + 3, none⟩ = some (.slice l.p2 P.b.length l.c2) ∧ w.cell? ⟨b, o + 4, none⟩ = some (.slice l.p3 P.c.length l.c3) ∧ w.cell? ⟨b, o + 5, none⟩ = some (.slice l.p4 P.d.length l.c4)
def Pl.wf (P : Pl) : Prop := (Lit.int .i64 P.W).wf = true ∧ (Lit.int .i64 P.H).wf = true ∧ (∀ j, P.a.getD j 0 < 4294967296) ∧ (∀ j, P.b.getD j 0 < 4294967296) ∧ ∀ j, P.c.getD j 0 < 4294967296
section
variable {P : Pl} {B : Nat} {w w' : World} {l : Lay}
theorem Pl.fs.later (h : P.fs w l) (hb : Below w.heap.size w w') : P.fs w' l := ⟨h.1.later hb, h.2.1.later hb, h.2.2.1.later hb, h.2.2.2.later hb⟩
theorem Pl.own.later (h : P.own B w l) (hb : Below w.heap.size w w') : P.own B w' l := ⟨h.1.later hb, h.2.1.later hb, h.2.2.1.later hb, h.2.2.2.later hb⟩
theorem Pl.own.base {B' : Nat} (h : P.own B w l) (hB : B' ≤ B) : P.own B' w l := ⟨h.1.base hB, h.2.1.base hB, h.2.2.1.base hB, h.2.2.2.base hB⟩
theorem Pl.own.fs (h : P.own B w l) : P.fs w l := ⟨h.1.fs, h.2.1.fs, h.2.2.1.fs, h.2.2.2.fs⟩
theorem Pl.own.setCell (h : P.own B w l) {a : Addr} (ha : a.block < B) (v : Value) : P.own B (w.setCell a v) l := ⟨h.1.setCell ha v, h.2.1.setCell ha v, h.2.2.1.setCell ha v, h.2.2.2.setCell ha v⟩
theorem Pl.own.alloc (h : P.own B w l) (o : Obj) : P.own B (w.alloc o) l := ⟨h.1.alloc o, h.2.1.alloc o, h.2.2.1.alloc o, h.2.2.2.alloc o⟩
theorem Pl.own.drewN (h : P.own B w l) (n : Nat) : P.own B (w.drewN n) l := ⟨h.1.drewN n, h.2.1.drewN n, h.2.2.1.drewN n, h.2.2.2.drewN n⟩
end
def plV (P : Pl) (l : Lay) : Value := .agg #[.int .i64 P.W, .int .i64 P.H, .slice l.p1 P.a.length l.c1, .slice l.p2 P.b.length l.c2, .slice l.p3 P.c.length l.c3, .slice l.p4 P.d.length l.c4]
theorem plV_inj {P : Pl} {l m : Lay} (h : plV P l = plV P m) : l = m := by
  obtain ⟨⟩ := l
  obtain ⟨⟩ := m
  simp [plV] at h
  simp [h]
/-- In a plan: a call that hands back a plate of its own. -/
def Clm.plate (P : Pl) (B : Nat) : Clm := ⟨1, fun _ v => ∃ l, v = plV P l, fun _ v w => ∀ l, v = plV P l → P.own B w l, fun _ => ⟨_, ⟨none, 0, none, 0, none, 0, none, 0⟩, rfl⟩,
  fun _ v w w' h hb u e => (h u e).later hb, fun h => nomatch h⟩
theorem wpC_callP {Q0 : Program} {ops : Array Oper} {Q : Exit → Act → World → Prop} {W : World} {l : List Oper} {cs : List Clm} {i : Nat} {ks : List (Nat × (World → Prop))} {a : Act} {o : Oper}
    (P : Pl) (hw : Region.wanted o (yielded ops a.tmps) = true) {f : FuncId} {args : Array Value} (h1 : ∀ w, (execOp a.eval o).run Q0 w = .ok (.enter f args) w)
    (hc : ∀ w, Below W.heap.size W w → depK o ks w → Calls Q0 f args w (fun e w' => ∃ l, e = .returned (.agg #[.int .i64 P.W, .int .i64 P.H, .slice l.p1 P.a.length l.c1, .slice l.p2 P.b.length l.c2, .slice l.p3 P.c.length l.c3, .slice l.p4 P.d.length l.c4]) ∧ Below w.heap.size w w' ∧ P.own w.heap.size w' l))
    (h : ∀ lq, wpC Q0 ops Q W l cs (i + 1) ((i, fun w => ∀ u, plV P lq = plV P u → P.own W.heap.size w u) :: ks) (a.put o.dst (.agg #[.int .i64 P.W, .int .i64 P.H, .slice lq.p1 P.a.length lq.c1, .slice lq.p2 P.b.length lq.c2, .slice lq.p3 P.c.length lq.c3, .slice lq.p4 P.d.length lq.c4]))) : wpC Q0 ops Q W (o :: l) (Clm.plate P W.heap.size :: cs) i ks a := by
  refine wpC_call (Clm.plate P W.heap.size) rfl hw h1 (fun w hb hk => (hc w hb hk).mono ?_) ?_
  · rintro e w' ⟨u, rfl, hbl, hO⟩
    exact ⟨_, rfl, hbl, ⟨u, rfl⟩, fun u' e => by rw [← plV_inj e]; exact hO.base hb.size⟩
  · rintro v ⟨u, rfl⟩; exact h u
set_option maxRecDepth 100000 in
theorem Try.cellsPlate : Try.prog.cellsOf 25 = 6 := by kernel_rfl
set_option maxRecDepth 100000 in
theorem Try.cellsB : Try.prog.cellsOf 4 = 1 := by kernel_rfl
set_option maxRecDepth 100000 in
theorem Try.cellsBs : Try.prog.cellsOf 23 = 1 := by kernel_rfl
set_option maxRecDepth 100000 in
theorem Try.cellsI : Try.prog.cellsOf 2 = 1 := by kernel_rfl
def boolOf : Value → Bool | .bool b => b | _ => false
section
variable {H : Type} {enc : TypeId × Value → H} {P : Program} {w : World} {base : Nat} {spare : Nat → Bool} {held : Bool}
theorem trod_bool {fuel : Nat} {t : TypeId} {cs : List Value} {x : DataW H × List MemPlace} (ht : P.underlying t = some .bool) (h : DataW.trod enc P w base spare held fuel t cs = some x) : ∃ b, cs = [.bool b] := by
  cases fuel with
  | zero => simp [DataW.trod] at h
  | succ n =>
    unfold DataW.trod at h
    rw [ht] at h
    split at h <;> simp_all
theorem open_bools {t e : TypeId} {fuel : Nat} {cs : List Value} {x : DataW H × List MemPlace} (ht : P.underlying t = some (.slice e)) (he : P.underlying e = some .bool) (hc : P.cellsOf e = 1)
    (h : DataW.trod enc P w base spare held fuel t cs = some x) : ∃ v xs, cs = [v] ∧ BS w v xs := by
  rcases Deep.open_slice1 ht hc h with ⟨rfl, _⟩ | ⟨a, len, cap, m, n, V, D, Pl, rfl, _, hl, hm, hmm, _, hx⟩
  · exact ⟨_, [], rfl, ⟨none, 0, rfl, by omega, by simp, fun i hi => by simp at hi⟩⟩
  · have hlm : len ≤ m := by rw [hmm]; split <;> omega
    have hV : ∀ i, i < len → V i = .bool (boolOf (V i)) := fun i hi => by
      obtain ⟨b, e1⟩ := trod_bool he (hx i (by omega)).2
      simp only [List.cons.injEq, and_true] at e1
      rw [e1]
      rfl
    refine ⟨_, (List.range len).map fun i => boolOf (V i), rfl, ⟨some a, cap, by simp, by simpa [maxLen] using hm, by simpa using hl, fun i hi => ?_⟩⟩
    have hi : i < len := by simpa using hi
    have h0 : a.spot = none := by
      have := spot_none (hx 0 (by omega)).1
      simpa [Addr.add] using this
    obtain ⟨b, o, sp⟩ := a
    have h0 : sp = none := h0
    subst h0
    refine ⟨b, o, rfl, ?_⟩
    have h1 := (hx i (by omega)).1
    rw [hV i hi] at h1
    have e3 : (⟨b, o, none⟩ : Addr).add i = ⟨b, o + i, none⟩ := by
      unfold Addr.add
      split
      · rename_i h; subst h; rfl
      · rfl
    rw [e3] at h1
    rw [h1]
    simp [hi]
end
section
variable {H : Type} {enc : TypeId × Value → H} {w : World} {base : Nat} {spare : Nat → Bool} {held : Bool}
set_option maxRecDepth 100000 in
theorem open_Plate {r : Reach} {b0 : Nat} {v : Value} {d : DataW H} {p : List MemPlace} (hv : Value.okWide Try.prog w r b0 25 v) (h : DataW.Trod enc Try.prog w base spare held 25 v d p) :
    ∃ (P : Pl) (l : Lay), v = .agg #[.int .i64 P.W, .int .i64 P.H, .slice l.p1 P.a.length l.c1, .slice l.p2 P.b.length l.c2, .slice l.p3 P.c.length l.c3, .slice l.p4 P.d.length l.c4] ∧ (P.fs w l ∧ P.wf) := by
  obtain ⟨cs, n, rfl, hl, hg⟩ := open_cells Try.underlying25 hv h
  rw [Try.cellsPlate] at hl
  match cs, hl with
  | [v0, v1, v2, v3, v4, v5], _ =>
    obtain ⟨x0, g0⟩ : ∃ x, DataW.trod enc Try.prog w base spare held n 2 (([v0, v1, v2, v3, v4, v5].drop 0).take (Try.prog.cellsOf 2)) = some x := hg 0 _ rfl
    obtain ⟨x1, g1⟩ : ∃ x, DataW.trod enc Try.prog w base spare held n 2 (([v0, v1, v2, v3, v4, v5].drop 1).take (Try.prog.cellsOf 2)) = some x := hg 1 _ rfl
    obtain ⟨x2, g2⟩ : ∃ x, DataW.trod enc Try.prog w base spare held n 22 (([v0, v1, v2, v3, v4, v5].drop 2).take (Try.prog.cellsOf 22)) = some x := hg 2 _ rfl
    obtain ⟨x3, g3⟩ : ∃ x, DataW.trod enc Try.prog w base spare held n 22 (([v0, v1, v2, v3, v4, v5].drop 3).take (Try.prog.cellsOf 22)) = some x := hg 3 _ rfl
    obtain ⟨x4, g4⟩ : ∃ x, DataW.trod enc Try.prog w base spare held n 22 (([v0, v1, v2, v3, v4, v5].drop 4).take (Try.prog.cellsOf 22)) = some x := hg 4 _ rfl
    obtain ⟨x5, g5⟩ : ∃ x, DataW.trod enc Try.prog w base spare held n 23 (([v0, v1, v2, v3, v4, v5].drop 5).take (Try.prog.cellsOf 23)) = some x := hg 5 _ rfl
    rw [Try.cellsI] at g0 g1
    rw [Try.cellsFs] at g2 g3 g4
    rw [Try.cellsBs] at g5
    obtain ⟨W, e0, _, w0⟩ := DataW.trod_int Try.underlying2 g0
    obtain ⟨H, e1, _, w1⟩ := DataW.trod_int Try.underlying2 g1
    obtain ⟨u2, xs2, e2, h2, k2⟩ := open_floats Try.underlying22 Try.underlying26 Try.cellsF g2
    obtain ⟨u3, xs3, e3, h3, k3⟩ := open_floats Try.underlying22 Try.underlying26 Try.cellsF g3
    obtain ⟨u4, xs4, e4, h4, k4⟩ := open_floats Try.underlying22 Try.underlying26 Try.cellsF g4
    obtain ⟨u5, xs5, e5, h5⟩ := open_bools Try.underlying23 Try.underlying4 Try.cellsB g5
    simp only [List.drop_zero, List.drop_succ_cons, List.take_succ_cons, List.take_zero, List.cons.injEq, and_true] at e0 e1 e2 e3 e4 e5
    subst e0 e1 e2 e3 e4 e5
    obtain ⟨q2, d2, rfl, r2⟩ := h2
    obtain ⟨q3, d3, rfl, r3⟩ := h3
    obtain ⟨q4, d4, rfl, r4⟩ := h4
    obtain ⟨q5, d5, rfl, r5⟩ := h5
    exact ⟨⟨W, H, xs2, xs3, xs4, xs5⟩, ⟨q2, d2, q3, d3, q4, d4, q5, d5⟩, rfl, ⟨⟨_, _, rfl, r2⟩, ⟨_, _, rfl, r3⟩, ⟨_, _, rfl, r4⟩, ⟨_, _, rfl, r5⟩⟩, w0, w1, k2, k3, k4⟩
end
end Go.Proofs.Ytphamdlnnfionaa
