/-
  How this seat's structs by value are opened to their fields and shut again; the world's frame behind a call that only makes memory. No condition.
-/
import Derived.Test.YtpdpokbjfnnomaaFw
import Derived.Test.YtpdpokbjfnnomaaRows
import Derived.ProofKit
import Derived.OpenShut
import Derived.Lib.SmallJoins
import Derived.Deep.Fields
import Derived.WalkSpells
set_option linter.unusedSimpArgs false
set_option linter.unusedVariables false
set_option linter.unusedSectionVars false
namespace Go.Proofs.Ytpdpokbjfnnomaa
open Go Go.RowKit
open Go.ChangeShapes Go.WideShapes Go.ChangeAt Go.RowKit Go.Joins
theorem own : ownKnob Try.prog.godebug = none := by kernel_rfl

/-- What a function that makes memory leaves: a value; nothing that was there has turned. -/
def BV (w : World) (v : Value) (e : Ending) (w' : World) : Prop := e = .returned v ∧ Below w.heap.size w w'
theorem below_then {w b c : World} (h1 : Below w.heap.size w b) (h2 : Below b.heap.size b c) : Below w.heap.size w c := h1.trans (h2.mono h1.size)
theorem below_alloc {w b : World} (h : Below w.heap.size w b) (o : Obj) : Below w.heap.size w (b.alloc o) := h.alloc h.size _
theorem free_later {w wx : World} {a : Addr} {v : Value} (hb : Below w.heap.size w wx) (h : w.cell? a = some v) (hf : w.frozen? a = false) : wx.frozen? a = false :=
  (hb.frozen (World.block_lt_of_cell? _ _ h)).trans hf
/-! ### A region that draws its order and whose calls make memory: what lies below 'W' and some cells stay -/
def Kp (W : World) (cs : List (Addr × Value)) (w' : World) : Prop := Below W.heap.size W w' ∧ ∀ c ∈ cs, w'.cell? c.1 = some c.2
theorem Kp.later {W w w' : World} {cs : List (Addr × Value)} (h : Kp W cs w) (hb : Below w.heap.size w w') : Kp W cs w' :=
  ⟨below_then h.1 hb, fun c hc => cell_later hb (h.2 c hc)⟩
theorem Kp.start {W : World} {cs : List (Addr × Value)} (h : ∀ c ∈ cs, W.cell? c.1 = some c.2) : Kp W cs { W with drawn := W.drawn + 1 } :=
  ⟨(Below.refl _ _).drew, h⟩
section
variable {P : Program} {ops : Array Oper} {a : Act} {o : Oper} {rest : List Oper}
theorem wpSome_val {C : World → Prop} {Q : Act → Prop} (hw : Region.wanted o (yielded ops a.tmps) = true) (v : Value) (h1 : ∀ w', C w' → (execOp a.eval o).run P w' = .ok (.value v) w')
    (h : wpSome P ops C Q rest (a.put o.dst v)) : wpSome P ops C Q (o :: rest) a := by
  refine wpSome_cons ?_
  rw [if_pos hw]
  refine ⟨true, v, fun w' hC => ?_, fun u hu => ?_⟩
  · rw [h1 w' hC]; exact ⟨hC, inS_refl _ _⟩
  · simp only [inS, if_true] at hu; rw [hu]; exact h
theorem wpSome_callB {W : World} {cs : List (Addr × Value)} {Q : Act → Prop} (hw : Region.wanted o (yielded ops a.tmps) = true) (v : Value) {f : FuncId} {args : Array Value} (h1 : ∀ w', (execOp a.eval o).run P w' = .ok (.enter f args) w')
    (hc : ∀ w', Kp W cs w' → Calls P f args w' (BV w' v)) (h : wpSome P ops (Kp W cs) Q rest (a.put o.dst v)) : wpSome P ops (Kp W cs) Q (o :: rest) a := by
  refine wpSome_cons ?_
  rw [if_pos hw]
  refine ⟨true, v, fun w' hC => ?_, fun u hu => ?_⟩
  · rw [h1 w']
    exact (hc w' hC).mono fun e w'' ⟨he, hb⟩ => ⟨v, he, inS_refl _ _, hC.later hb⟩
  · simp only [inS, if_true] at hu; rw [hu]; exact h
end
theorem laidOut : laidOutB Try.prog = true := by kernel_rfl
theorem Try.cellsCup : Try.prog.cellsOf 23 = 2 := by kernel_rfl
section
variable {H : Type} {enc : TypeId × Value → H} {w : World} {base : Nat} {spare : Nat → Bool} {held : Bool}
theorem open_Cup {r : Reach} {b0 : Nat} {v : Value} {d : DataW H} {p : List MemPlace} (hv : Value.okWide Try.prog w r b0 23 v) (h : DataW.Trod enc Try.prog w base spare held 23 v d p) :
    ∃ a b, v = .agg #[.int .i64 a, .int .i64 b] ∧ d = .agg [.lit (.int .i64 a), .lit (.int .i64 b)] ∧ p = [] ∧ ((Lit.int .i64 a).wf = true ∧ (Lit.int .i64 b).wf = true) := by
  obtain ⟨c0, c1, y0, y1, m, rfl, rfl, rfl, hy0, hy1⟩ := open_agg2 Try.underlying23 (by kernel_rfl) Try.cellsCup hv h
  obtain ⟨a, e0, rfl, wa⟩ := DataW.trod_int Try.underlying2 hy0
  obtain ⟨b, e1, rfl, wb⟩ := DataW.trod_int Try.underlying2 hy1
  simp at e0 e1
  subst e0 e1
  exact ⟨a, b, rfl, rfl, rfl, wa, wb⟩
end
end Go.Proofs.Ytpdpokbjfnnomaa
