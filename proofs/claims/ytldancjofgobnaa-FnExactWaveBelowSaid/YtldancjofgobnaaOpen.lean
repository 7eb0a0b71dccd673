/-
  How this seat's structs by value are opened to their fields and shut again; the world's frame behind a call that only makes memory. No condition.
-/
import Derived.Test.YtldancjofgobnaaFw
import Derived.Test.YtldancjofgobnaaRows
import Derived.ProofKit
import Derived.OpenShut
import Derived.Lib.SmallJoins
import Derived.Deep.Fields
import Derived.WalkSpells
set_option linter.unusedSimpArgs false
set_option linter.unusedVariables false
set_option linter.unusedSectionVars false
namespace Go.Proofs.Ytldancjofgobnaa
open Go Go.RowKit
open Go.ChangeShapes Go.WideShapes Go.ChangeAt Go.RowKit Go.Joins
set_option maxRecDepth 100000 in
theorem own : ownKnob Try.prog.godebug = none := by kernel_rfl

/-- What a function that makes memory leaves: a value; nothing that was there has turned. -/
def BV (w : World) (v : Value) (e : Ending) (w' : World) : Prop := e = .returned v ∧ Below w.heap.size w w'
theorem below_then {w b c : World} (h1 : Below w.heap.size w b) (h2 : Below b.heap.size b c) : Below w.heap.size w c := h1.trans (h2.mono h1.size)
theorem below_alloc {w b : World} (h : Below w.heap.size w b) (o : Obj) : Below w.heap.size w (b.alloc o) := h.alloc h.size _
theorem free_later {w wx : World} {a : Addr} {v : Value} (hb : Below w.heap.size w wx) (h : w.cell? a = some v) (hf : w.frozen? a = false) : wx.frozen? a = false :=
  (hb.frozen (World.block_lt_of_cell? _ _ h)).trans hf
/-! ### A region that draws its order and whose calls make memory: what lies below 'W' and some cells stay -/
def Kp (W : World) (cs : List (Addr × Value)) (w' : World) : Prop := Below W.heap.size W w' ∧ ∀ c ∈ cs, w'.cell? c.1 = some c.2
theorem Kp.later {W w w' : World} {cs : List (Addr × Value)} (h : Kp W cs w) (hb : Below w.heap.size w w') : Kp W cs w' :=
  ⟨below_then h.1 hb, fun c hc => cell_later hb (h.2 c hc)⟩
theorem Kp.start {W : World} {cs : List (Addr × Value)} (h : ∀ c ∈ cs, W.cell? c.1 = some c.2) : Kp W cs { W with drawn := W.drawn + 1 } :=
  ⟨(Below.refl _ _).drew, h⟩
section
variable {P : Program} {ops : Array Oper} {a : Act} {o : Oper} {rest : List Oper}
theorem wpSome_val {C : World → Prop} {Q : Act → Prop} (hw : Region.wanted o (yielded ops a.tmps) = true) (v : Value) (h1 : ∀ w', C w' → (execOp a.eval o).run P w' = .ok (.value v) w')
    (h : wpSome P ops C Q rest (a.put o.dst v)) : wpSome P ops C Q (o :: rest) a := by
  refine wpSome_cons ?_
  rw [if_pos hw]
  refine ⟨true, v, fun w' hC => ?_, fun u hu => ?_⟩
  · rw [h1 w' hC]; exact ⟨hC, inS_refl _ _⟩
  · simp only [inS, if_true] at hu; rw [hu]; exact h
theorem wpSome_callB {W : World} {cs : List (Addr × Value)} {Q : Act → Prop} (hw : Region.wanted o (yielded ops a.tmps) = true) (v : Value) {f : FuncId} {args : Array Value} (h1 : ∀ w', (execOp a.eval o).run P w' = .ok (.enter f args) w')
    (hc : ∀ w', Kp W cs w' → Calls P f args w' (BV w' v)) (h : wpSome P ops (Kp W cs) Q rest (a.put o.dst v)) : wpSome P ops (Kp W cs) Q (o :: rest) a := by
  refine wpSome_cons ?_
  rw [if_pos hw]
  refine ⟨true, v, fun w' hC => ?_, fun u hu => ?_⟩
  · rw [h1 w']
    exact (hc w' hC).mono fun e w'' ⟨he, hb⟩ => ⟨v, he, inS_refl _ _, hC.later hb⟩
  · simp only [inS, if_true] at hu; rw [hu]; exact h
end
set_option maxRecDepth 100000 in
theorem laidOut : laidOutB Try.prog = true := by kernel_rfl
section
variable {H : Type} {enc : TypeId × Value → H} {P : Program} {w : World} {base : Nat} {spare : Nat → Bool} {held : Bool}
theorem trod_float {k : FloatKind} {fuel : Nat} {t : TypeId} {cs : List Value} {x : DataW H × List MemPlace} (ht : P.underlying t = some (.float k)) (h : DataW.trod enc P w base spare held fuel t cs = some x) :
    ∃ b, cs = [.float k b] ∧ (Lit.float k b).wf = true := by
  cases fuel with
  | zero => simp [DataW.trod] at h
  | succ n =>
    unfold DataW.trod at h
    rw [ht] at h
    split at h <;> simp_all
/-- A struct by value: its cells, and each field's own reading of them. -/
theorem open_cells {r : Reach} {b0 : Nat} {t : TypeId} {fs : Array Field} {v : Value} {d : DataW H} {p : List MemPlace} (hs : P.underlying t = some (.struct fs)) (hv : Value.okWide P w r b0 t v) (h : DataW.Trod enc P w base spare held t v d p) :
    ∃ (cs : List Value) (n : Nat), v = .agg cs.toArray ∧ cs.length = P.cellsOf t ∧ ∀ (i : Nat) (f : Field), fs[i]? = some f → ∃ x, DataW.trod enc P w base spare held n f.type ((cs.drop f.offset).take (P.cellsOf f.type)) = some x := by
  obtain ⟨cs, rfl, hsz⟩ := okWide_struct hs hv
  obtain ⟨l⟩ := cs
  obtain ⟨fuel, hf⟩ := h
  obtain ⟨xs, n, _, hx, _, hlen, hg⟩ := DataW.trod_struct hs hf
  refine ⟨l, n, rfl, hsz, fun i f hi => ?_⟩
  have hl : i < xs.length := by rw [hlen]; exact (Array.getElem?_eq_some_iff.1 hi).1
  exact ⟨xs[i], (hg i f hi).trans (List.getElem?_eq_getElem hl)⟩
end
/-- Six 32-bit numbers of a stuff. -/
structure St where
  a : Nat
  b : Nat
  c : Nat
  d : Nat
  p : Nat
  l : Nat
end Go.Proofs.Ytldancjofgobnaa
