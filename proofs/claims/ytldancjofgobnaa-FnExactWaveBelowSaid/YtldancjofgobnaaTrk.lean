/-
  What a call that only makes memory leaves of some blocks, in one word; what such calls hand back (floats up to a NaN's bits); the steps of a plan for them. No condition; nothing of the program is named here.
-/
import Derived.Test.YtldancjofgobnaaPlan
import Derived.Test.YtldancjofgobnaaNum
set_option linter.unusedSimpArgs false
set_option linter.unusedVariables false
set_option linter.unusedSectionVars false
namespace Go.Proofs.Ytldancjofgobnaa
open Go Go.RowKit
@[go_sem] theorem size_drewN' (w : World) (n : Nat) : (w.drewN n).heap.size = w.heap.size := rfl
@[go_sem] theorem alloc_drewN (w : World) (n : Nat) (o : Obj) : (w.drewN n).alloc o = (w.alloc o).drewN n := rfl
@[go_sem] theorem setCell_drewN (w : World) (n : Nat) (a : Addr) (v : Value) : (w.drewN n).setCell a v = (w.setCell a v).drewN n := rfl
/-- These blocks are there. -/
def Trk (w : World) (L : List Nat) : Prop := ∀ b ∈ L, b < w.heap.size
theorem Trk.nil (w : World) : Trk w [] := fun b h => by cases h
theorem Trk.more {w : World} {L : List Nat} {b : Nat} (h : Trk w L) (hb : b < w.heap.size) : Trk w (b :: L) := fun c hc => by
  rcases List.mem_cons.1 hc with rfl | hc
  · exact hb
  · exact h c hc
theorem Trk.alloc {w : World} {L : List Nat} (h : Trk w L) (o : Obj) : Trk (w.alloc o) (w.heap.size :: L) := fun c hc => by
  rw [World.size_alloc]
  rcases List.mem_cons.1 hc with rfl | hc
  · omega
  · have := h c hc; omega
theorem Trk.setCell {w : World} {L : List Nat} (h : Trk w L) (a : Addr) (v : Value) : Trk (w.setCell a v) L := fun c hc => by rw [World.size_setCell]; exact h c hc
theorem Trk.drewN {w : World} {L : List Nat} (h : Trk w L) (n : Nat) : Trk (w.drewN n) L := h
theorem Trk.drew {w : World} {L : List Nat} (h : Trk w L) : Trk w.drew L := h
theorem Trk.drawn {w : World} {L : List Nat} (h : Trk w L) (n : Nat) : Trk { w with drawn := n } L := h
/-- They hold what they held. -/
def SameOn (w w' : World) : List Nat → Prop
  | [] => True
  | b :: L => ((b < w'.heap.size ∧ b ≠ w'.heap.size ∧ w'.heap.size ≠ b ∧ (∀ k, b ≠ w'.heap.size + k) ∧ (∀ k, w'.heap.size + k ≠ b)) ∧ (∀ o, w'.cell? ⟨b, o, none⟩ = w.cell? ⟨b, o, none⟩) ∧ (∀ o, w'.frozen? ⟨b, o, none⟩ = w.frozen? ⟨b, o, none⟩)) ∧ SameOn w w' L
theorem bv_next {w w' : World} (hb : Below w.heap.size w w') : ∀ {L : List Nat}, Trk w L → Trk w' L ∧ SameOn w w' L
  | [], _ => ⟨Trk.nil _, trivial⟩
  | b :: L, h => by
    have h0 : b < w.heap.size := h b (by simp)
    have h1 := hb.size
    obtain ⟨i1, i2⟩ := bv_next hb (L := L) (fun c hc => h c (by simp [hc]))
    exact ⟨i1.more (by omega), ⟨⟨by omega, by omega, by omega, fun k => by omega, fun k => by omega⟩, fun o => hb.cell h0, fun o => hb.frozen h0⟩, i2⟩
/-- What a function that makes memory hands back: a float, known but for a NaN's bits; a float and a bool. -/
def BF (w : World) (k : FloatKind) (c : Nat) (e : Ending) (w' : World) : Prop := ∃ r, e = .returned (.float k r) ∧ cn k r = c ∧ Below w.heap.size w w'
def BFB (w : World) (k : FloatKind) (c : Nat) (b : Bool) (e : Ending) (w' : World) : Prop := ∃ r, e = .returned (.tuple #[.float k r, .bool b]) ∧ cn k r = c ∧ Below w.heap.size w w'
theorem below_draws {w : World} (n : Nat) : Below w.heap.size w (w.drewN n) := below_drewN (Below.refl _ _) n
theorem RB.bv {w : World} {b : Bool} {e : Ending} {w' : World} (h : RB w b e w') : BV w (.bool b) e w' := by obtain ⟨rfl, n, rfl⟩ := h; exact ⟨rfl, below_draws _⟩
theorem RI.bv {w : World} {i : Int} {e : Ending} {w' : World} (h : RI w i e w') : BV w (.int .i64 i) e w' := by obtain ⟨rfl, n, rfl⟩ := h; exact ⟨rfl, below_draws _⟩
theorem RF.bf {w : World} {k : FloatKind} {c : Nat} {e : Ending} {w' : World} (h : RF w k c e w') : BF w k c e w' := by obtain ⟨r, rfl, hr, n, rfl⟩ := h; exact ⟨r, rfl, hr, below_draws _⟩
theorem RFB.bfb {w : World} {k : FloatKind} {c : Nat} {b : Bool} {e : Ending} {w' : World} (h : RFB w k c b e w') : BFB w k c b e w' := by obtain ⟨r, rfl, hr, n, rfl⟩ := h; exact ⟨r, rfl, hr, below_draws _⟩
/-- A float of a class, in a plan; a float and a bool. -/
def Clm.fl (k : FloatKind) (c : Nat) : Clm := ⟨1, fun _ v => ∃ r, v = .float k r ∧ cn k r = cn k c, fun _ _ _ => True, fun _ => ⟨_, c, rfl, rfl⟩, fun _ _ _ _ _ _ => trivial, fun h => nomatch h⟩
def Clm.flb (k : FloatKind) (c : Nat) (b : Bool) : Clm := ⟨1, fun _ v => ∃ r, v = .tuple #[.float k r, .bool b] ∧ cn k r = cn k c, fun _ _ _ => True, fun _ => ⟨_, c, rfl, rfl⟩, fun _ _ _ _ _ _ => trivial, fun h => nomatch h⟩
section
variable {P : Program} {ops : Array Oper} {Q : Exit → Act → World → Prop} {W : World}
variable {l : List Oper} {cs : List Clm} {i : Nat} {ks : List (Nat × (World → Prop))} {a : Act} {o : Oper}
theorem wpC_callF (k : FloatKind) (c : Nat) (hw : Region.wanted o (yielded ops a.tmps) = true) {f : FuncId} {args : Array Value} (h1 : ∀ w, (execOp a.eval o).run P w = .ok (.enter f args) w) (hcc : cn k c = c)
    (hc : ∀ w, Below W.heap.size W w → depK o ks w → Calls P f args w (BF w k c))
    (h : ∀ r, cn k r = c → wpC P ops Q W l cs (i + 1) ((i, fun _ => True) :: ks) (a.put o.dst (.float k r))) : wpC P ops Q W (o :: l) (Clm.fl k c :: cs) i ks a := by
  refine wpC_call (Clm.fl k c) rfl hw h1 (fun w hb hk => (hc w hb hk).mono ?_) ?_
  · rintro e w' ⟨r, rfl, hr, hbl⟩; exact ⟨_, rfl, hbl, ⟨r, rfl, by rw [hr, hcc]⟩, trivial⟩
  · rintro v ⟨r, rfl, hr⟩; exact h r (by rw [hr, hcc])
theorem wpC_callFB (k : FloatKind) (c : Nat) (b : Bool) (hw : Region.wanted o (yielded ops a.tmps) = true) {f : FuncId} {args : Array Value} (h1 : ∀ w, (execOp a.eval o).run P w = .ok (.enter f args) w) (hcc : cn k c = c)
    (hc : ∀ w, Below W.heap.size W w → depK o ks w → Calls P f args w (BFB w k c b))
    (h : ∀ r, cn k r = c → wpC P ops Q W l cs (i + 1) ((i, fun _ => True) :: ks) (a.put o.dst (.tuple #[.float k r, .bool b]))) : wpC P ops Q W (o :: l) (Clm.flb k c b :: cs) i ks a := by
  refine wpC_call (Clm.flb k c b) rfl hw h1 (fun w hb hk => (hc w hb hk).mono ?_) ?_
  · rintro e w' ⟨r, rfl, hr, hbl⟩; exact ⟨_, rfl, hbl, ⟨r, rfl, by rw [hr, hcc]⟩, trivial⟩
  · rintro v ⟨r, rfl, hr⟩; exact h r (by rw [hr, hcc])
/-- '-' of a float; 'float64(x)'. -/
def Clm.neg : Clm := ⟨0, fun x v => ∀ k p, x = [.float k p] → ∃ r, v = .float k r ∧ cn k r = fneg k (cn k p), fun _ _ _ => True,
  fun x => by
    by_cases h : ∃ k p, x = [.float k p]
    · obtain ⟨k, p, rfl⟩ := h
      refine ⟨.float k (Op.negFloat k p), fun k' p' e => ?_⟩
      simp only [List.cons.injEq, Value.float.injEq, and_true] at e
      obtain ⟨rfl, rfl⟩ := e
      exact ⟨_, rfl, cn_neg _ _⟩
    · exact ⟨undef, fun k p e => absurd ⟨k, p, e⟩ h⟩,
  fun _ _ _ _ _ _ => trivial, fun _ _ _ _ => trivial⟩
theorem wpC_neg {t : TypeId} {X : Operand} (ho : o.op = .unOp .neg t X) {k : FloatKind} {x : Nat} (hx : a.eval X = .float k x) (hw : Region.wanted o (yielded ops a.tmps) = true)
    (h : ∀ r, (∀ cx, cn k x = cx → cn k r = fneg k cx) → wpC P ops Q W l cs (i + 1) ks (a.put o.dst (.float k r))) : wpC P ops Q W (o :: l) (Clm.neg :: cs) i ks a := by
  have hl : o.op.operands.toList.map a.eval = [.float k x] := by rw [ho]; simp [Op.operands, hx]
  simp only [wpC]
  rw [hl]
  refine ⟨.inl ⟨hw, fun _ w => ?_, fun h => absurd rfl h⟩, fun u hu => ?_⟩
  · have hr : (execOp a.eval o).run P w = .ok (.value (.float k (Op.negFloat k x))) w := by
      simp only [execOp, ho, hx]
      simp [Op.unary, Result.andThen]
    rw [hr, hl]
    refine ⟨⟨0, rfl⟩, fun k' p' e => ?_⟩
    simp only [List.cons.injEq, Value.float.injEq, and_true] at e
    obtain ⟨rfl, rfl⟩ := e
    exact ⟨_, rfl, cn_neg _ _⟩
  · obtain ⟨r, rfl, hr⟩ := hu k x rfl
    exact h r (by rintro cx rfl; exact hr)
def Clm.wide : Clm := ⟨0, fun x v => ∀ p, x = [.float .f32 p] → ∃ r, v = .float .f64 r ∧ cn .f64 r = Go.Proofs.Ytldancjofgobnaa.wide (cn .f32 p), fun _ _ _ => True,
  fun x => by
    by_cases h : ∃ p, x = [.float .f32 p]
    · obtain ⟨p, rfl⟩ := h
      refine ⟨.float .f64 (Go.Proofs.Ytldancjofgobnaa.wide (cn .f32 p)), fun p' e => ?_⟩
      simp only [List.cons.injEq, Value.float.injEq, and_true, true_and] at e
      subst e
      exact ⟨_, rfl, cn_wide _⟩
    · exact ⟨undef, fun p e => absurd ⟨p, e⟩ h⟩,
  fun _ _ _ _ _ _ => trivial, fun _ _ _ _ => trivial⟩
theorem wpC_wide {src dst : TypeId} {X : Operand} (ho : o.op = .convert src dst X) {x : Nat} (hx : a.eval X = .float .f32 x) (hs : P.underlying src = some (.float .f32)) (hd : P.underlying dst = some (.float .f64)) (hw : Region.wanted o (yielded ops a.tmps) = true)
    (h : ∀ r, (∀ cx, cn .f32 x = cx → cn .f64 r = Go.Proofs.Ytldancjofgobnaa.wide cx) → wpC P ops Q W l cs (i + 1) ks (a.put o.dst (.float .f64 r))) : wpC P ops Q W (o :: l) (Clm.wide :: cs) i ks a := by
  have hl : o.op.operands.toList.map a.eval = [.float .f32 x] := by rw [ho]; simp [Op.operands, hx]
  simp only [wpC]
  rw [hl]
  refine ⟨.inl ⟨hw, fun _ w => ?_, fun h => absurd rfl h⟩, fun u hu => ?_⟩
  · obtain ⟨r, n, h1, h2⟩ := run_convF (P := P) .f32 .f64 (by decide) src dst x hs hd w (wide_fits x)
    have hr : (execOp a.eval o).run P w = .ok (.value (.float .f64 r)) (w.drewN n) := by
      simp only [execOp, ho, hx]
      simp [h1, Result.andThen]
    rw [hr, hl]
    refine ⟨⟨n, rfl⟩, fun p' e => ?_⟩
    simp only [List.cons.injEq, Value.float.injEq, and_true, true_and] at e
    subst e
    exact ⟨_, rfl, by rw [h2, wide_cn]; rfl⟩
  · obtain ⟨r, rfl, hr⟩ := hu x rfl
    exact h r (by rintro cx rfl; exact hr)
end
end Go.Proofs.Ytldancjofgobnaa
