/-
  The walk's laws for float operations whose result may be a NaN (its bits are drawn from the tape), in a list of operations and in a region that draws its order. No condition but what each law says.
-/
import Derived.Test.YtpdpokbjfnnomaaFl
namespace Go.Proofs.Ytpdpokbjfnnomaa
open Go Go.RowKit

def feq (k : FloatKind) (x y : Nat) : Bool := k.format.order x y == some .eq
def flt (k : FloatKind) (x y : Nat) : Bool := k.format.order x y == some .lt
def fle (k : FloatKind) (x y : Nat) : Bool := k.format.order x y == some .lt || k.format.order x y == some .eq
def fgt (k : FloatKind) (x y : Nat) : Bool := k.format.order x y == some .gt
def fge (k : FloatKind) (x y : Nat) : Bool := k.format.order x y == some .gt || k.format.order x y == some .eq
section
variable (t : TypeId) (k : FloatKind) (a b : Nat)
@[go_sem high] theorem cmp_eql : binOp .eql t (.float k a) (.float k b) = pure (.bool (feq k (cn k a) (cn k b))) := by simp [binOp, Op.floatCmp, feq, order_cn]
@[go_sem high] theorem cmp_neq : binOp .neq t (.float k a) (.float k b) = pure (.bool (!feq k (cn k a) (cn k b))) := by simp [binOp, Op.floatCmp, feq, order_cn, bne]
@[go_sem high] theorem cmp_lss : binOp .lss t (.float k a) (.float k b) = pure (.bool (flt k (cn k a) (cn k b))) := by simp [binOp, Op.floatCmp, flt, order_cn]
@[go_sem high] theorem cmp_leq : binOp .leq t (.float k a) (.float k b) = pure (.bool (fle k (cn k a) (cn k b))) := by simp [binOp, Op.floatCmp, fle, order_cn]
@[go_sem high] theorem cmp_gtr : binOp .gtr t (.float k a) (.float k b) = pure (.bool (fgt k (cn k a) (cn k b))) := by simp [binOp, Op.floatCmp, fgt, order_cn]
@[go_sem high] theorem cmp_geq : binOp .geq t (.float k a) (.float k b) = pure (.bool (fge k (cn k a) (cn k b))) := by simp [binOp, Op.floatCmp, fge, order_cn]
end
/-- What a function that only computes leaves: a bool; a float; some draws. -/
def RB (w : World) (b : Bool) (e : Ending) (w' : World) : Prop := e = .returned (.bool b) ∧ ∃ n, w' = w.drewN n
def RF (w : World) (k : FloatKind) (c : Nat) (e : Ending) (w' : World) : Prop := ∃ r, e = .returned (.float k r) ∧ cn k r = c ∧ ∃ n, w' = w.drewN n
def RFB (w : World) (k : FloatKind) (c : Nat) (b : Bool) (e : Ending) (w' : World) : Prop := ∃ r, e = .returned (.tuple #[.float k r, .bool b]) ∧ cn k r = c ∧ ∃ n, w' = w.drewN n

theorem RB_as {P : Program} {f : FuncId} {args : Array Value} {w : World} {b b' : Bool} (h : Calls P f args w (RB w b)) (e : b = b') : Calls P f args w (RB w b') := e ▸ h

/-- One of the four operations. -/
def arithOp (op : BinOp) : Bool := match op with | .add | .sub | .mul | .quo => true | _ => false

section
variable {P : Program}

theorem run_fop (op : BinOp) (hop : arithOp op = true) (t : TypeId) (k : FloatKind) (x y : Nat) (w : World) :
    ∃ r n, (binOp op t (.float k x) (.float k y)).run P w = .ok (.float k r) (w.drewN n) ∧ cn k r = fop op k (cn k x) (cn k y) := by
  rw [fop_cn]
  cases h : floatBits op k x y with
  | some r => exact ⟨r, 0, run_float_arith w op t k x y r h, by rw [cn_of_not (floatBits_not_nan h)]; simp [fop, h]⟩
  | none =>
    have hr : (binOp op t (.float k x) (.float k y)).run P w = .ok (.float k ((Question.nanBits k x y).cut (w.tape w.drawn (.nanBits k x y)))) (w.drewN 1) := by
      have hf : (Question.nanBits k x y).forced = false := rfl
      cases op <;> simp [arithOp] at hop <;> simp only [floatBits] at h <;> simp [binOp, Op.floatArith, h, hf, World.drew_is_drewN]
    exact ⟨_, 1, hr, by rw [cn_of_isN (isN_nanBits _ _ _ _)]; simp [fop, h]⟩

theorem run_exec_fop {o : Oper} {ρ : Operand → Value} (op : BinOp) (hop : arithOp op = true) (t t' : TypeId) (X Y : Operand) (ho : o.op = .binOp op t X Y t') (k : FloatKind) (x y : Nat) (hx : ρ X = .float k x) (hy : ρ Y = .float k y) (w : World) :
    ∃ r n, (execOp ρ o).run P w = .ok (.value (.float k r)) (w.drewN n) ∧ cn k r = fop op k (cn k x) (cn k y) := by
  obtain ⟨r, n, h1, h2⟩ := run_fop (P := P) op hop t k x y w
  refine ⟨r, n, ?_, h2⟩
  have he : eqGuard op t X Y (.float k x) (.float k y) = pure () := by cases op <;> rfl
  unfold execOp
  rw [ho]
  simp [hx, hy, he, h1, Result.andThen]

/-- '+' ¦ '-' ¦ '*' ¦ '/' in a list of operations. -/
theorem wpList_fop {w : World} {ops : Array Oper} {rest : List Oper} {o : Oper} {a : Act} {Q : Exit → Act → World → Prop} (hg : o.guard = none) {op : BinOp} {t t' : TypeId} {X Y : Operand}
    (ho : o.op = .binOp op t X Y t') (hop : arithOp op = true) {k : FloatKind} {x y : Nat} (hx : a.eval X = .float k x) (hy : a.eval Y = .float k y)
    (h : ∀ r n, Hid (cn k r = fop op k (cn k x) (cn k y)) → wpList P ops Q rest (a.put o.dst (.float k r)) (w.drewN n)) : wpList P ops Q (o :: rest) a w := by
  obtain ⟨r, n, h1, h2⟩ := run_exec_fop (P := P) op hop t t' X Y ho k x y hx hy w
  refine wpList_plain hg fun K hK => ?_
  unfold Oper.wp
  rw [h1]
  exact hK _ _ (h r n h2)

/-- The same under a guard that has said yes. -/
theorem wpList_fop_g {w : World} {ops : Array Oper} {rest : List Oper} {o : Oper} {a : Act} {Q : Exit → Act → World → Prop} (hw : Region.wanted o (yielded ops a.tmps) = true) {op : BinOp} {t t' : TypeId} {X Y : Operand}
    (ho : o.op = .binOp op t X Y t') (hop : arithOp op = true) {k : FloatKind} {x y : Nat} (hx : a.eval X = .float k x) (hy : a.eval Y = .float k y)
    (h : ∀ r n, Hid (cn k r = fop op k (cn k x) (cn k y)) → wpList P ops Q rest (a.put o.dst (.float k r)) (w.drewN n)) : wpList P ops Q (o :: rest) a w := by
  obtain ⟨r, n, h1, h2⟩ := run_exec_fop (P := P) op hop t t' X Y ho k x y hx hy w
  refine wpList_step fun K hK => ?_
  rw [if_pos hw]
  unfold Oper.wp
  rw [h1]
  exact hK _ _ (h r n h2)

/-! ### In a region that draws its order -/

theorem someOf_of_quiet {C : World → Prop} {o : Oper} {a : Act} {K : Act → Prop} (h : o.quiet P a C K) : someOf P C o a K := by
  obtain ⟨v, h1, h2⟩ := h
  refine ⟨true, v, fun w hw => ?_, fun u hu => by simp only [inS, if_true] at hu; rw [hu]; exact h2⟩
  have h3 := h1 w hw
  unfold Oper.quietAt at h3
  cases hr : (execOp a.eval o).run P w with
  | ok n w' =>
    rw [hr] at h3
    cases n <;> simp only [Oper.quietUpon] at h3
    case value u => obtain ⟨rfl, rfl⟩ := h3; exact ⟨hw, inS_refl _ _⟩
    case skip => obtain ⟨rfl, rfl⟩ := h3; exact ⟨hw, inS_refl _ _⟩
    case enter f args =>
      obtain ⟨rfl, hc⟩ := h3
      exact hc.mono fun e w'' ⟨he, hC⟩ => ⟨v, he, inS_refl _ _, hC⟩
  | halt x w' => rw [hr] at h3; simp only [Oper.quietUpon] at h3

/-- One operation that the guide's quiet walk can run. -/
theorem wpSome_one {ops : Array Oper} {C : World → Prop} {Q : Act → Prop} {a : Act} {o : Oper} {rest : List Oper}
    (h : wpQuiet P ops C (fun a' => wpSome P ops C Q rest a') [o] a) : wpSome P ops C Q (o :: rest) a := by
  refine wpSome_cons ?_
  simp only [wpQuiet] at h
  split
  · rename_i hw; rw [if_pos hw] at h; exact someOf_of_quiet h
  · rename_i hw; rw [if_neg hw] at h; exact h

theorem norm_float {k : FloatKind} {c : Nat} (hc : cn k c = c) {v : Value} (h : inS false (.float k c) v) : ∃ r, v = .float k r ∧ cn k r = c := by
  simp only [inS, Bool.false_eq_true, if_false] at h
  cases v <;> simp [norm, norm1, hc] at h
  case float k' r => obtain ⟨rfl, h2⟩ := h; exact ⟨r, rfl, h2⟩

theorem wpSome_fop {w : World} {ops : Array Oper} {rest : List Oper} {o : Oper} {a : Act} {Q : Act → Prop} {op : BinOp} {t t' : TypeId} {X Y : Operand}
    (ho : o.op = .binOp op t X Y t') (hop : arithOp op = true) {k : FloatKind} {x y : Nat} (hx : a.eval X = .float k x) (hy : a.eval Y = .float k y) (hw : Region.wanted o (yielded ops a.tmps) = true)
    (h : ∀ r, Hid (cn k r = fop op k (cn k x) (cn k y)) → wpSome P ops (fun w2 => ∃ n, w2 = w.drewN n) Q rest (a.put o.dst (.float k r))) : wpSome P ops (fun w2 => ∃ n, w2 = w.drewN n) Q (o :: rest) a := by
  refine wpSome_cons ?_
  rw [if_pos hw]
  refine ⟨false, .float k (fop op k (cn k x) (cn k y)), fun w' hC => ?_, fun v hv => ?_⟩
  · obtain ⟨m, rfl⟩ := hC
    obtain ⟨r, n, h1, h2⟩ := run_exec_fop (P := P) op hop t t' X Y ho k x y hx hy (w.drewN m)
    rw [h1]
    exact ⟨⟨m + n, by rw [World.drewN_drewN]⟩, by simp [inS, norm, norm1, h2, cn_fop]⟩
  · obtain ⟨r, rfl, hr⟩ := norm_float (cn_fop _ _ _ _) hv
    exact h r hr

/-- A call that hands back a float, known but for a NaN's bits. -/
theorem wpSome_callF {w : World} {ops : Array Oper} {rest : List Oper} {o : Oper} {a : Act} {Q : Act → Prop} (hw : Region.wanted o (yielded ops a.tmps) = true) {f : FuncId} {args : Array Value}
    (hr : ∀ w', (execOp a.eval o).run P w' = .ok (.enter f args) w') {k : FloatKind} {c : Nat} (hcc : cn k c = c)
    (hc : ∀ m, Calls P f args (w.drewN m) fun e w' => ∃ r, e = .returned (.float k r) ∧ cn k r = c ∧ ∃ n, w' = (w.drewN m).drewN n)
    (h : ∀ r, Hid (cn k r = c) → wpSome P ops (fun w2 => ∃ n, w2 = w.drewN n) Q rest (a.put o.dst (.float k r))) : wpSome P ops (fun w2 => ∃ n, w2 = w.drewN n) Q (o :: rest) a := by
  refine wpSome_cons ?_
  rw [if_pos hw]
  refine ⟨false, .float k c, fun w' hC => ?_, fun v hv => ?_⟩
  · obtain ⟨m, rfl⟩ := hC
    rw [hr]
    refine (hc m).mono ?_
    rintro e w' ⟨r, rfl, h2, n, rfl⟩
    exact ⟨_, rfl, by simp [inS, norm, norm1, h2, hcc], ⟨m + n, by rw [World.drewN_drewN]⟩⟩
  · obtain ⟨r, rfl, hr⟩ := norm_float hcc hv
    exact h r hr

end
end Go.Proofs.Ytpdpokbjfnnomaa
