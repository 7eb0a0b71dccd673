/-
  The walk's laws for float operations whose result may be a NaN (its bits are drawn from the tape), in a list of operations and in a region that draws its order. No condition but what each law says.
-/
import Derived.Test.YtldancjofgobnaaFl
set_option linter.unusedSimpArgs false
set_option linter.unusedVariables false
set_option linter.unusedSectionVars false
namespace Go.Proofs.Ytldancjofgobnaa
open Go Go.RowKit

section
variable {P : Program} {w : World} {a : Addr} {m : Mode}
@[go_sem] theorem run_store_float (k : FloatKind) (b : Nat) : (store a (.float k b) m).run P w = stored P w a (.float k b) m := run_store P w a _ m rfl
@[go_sem] theorem run_store_complex (k : FloatKind) (b c : Nat) : (store a (.complex k b c) m).run P w = stored P w a (.complex k b c) m := run_store P w a _ m rfl
end
def feq (k : FloatKind) (x y : Nat) : Bool := k.format.order x y == some .eq
def flt (k : FloatKind) (x y : Nat) : Bool := k.format.order x y == some .lt
def fle (k : FloatKind) (x y : Nat) : Bool := k.format.order x y == some .lt || k.format.order x y == some .eq
def fgt (k : FloatKind) (x y : Nat) : Bool := k.format.order x y == some .gt
def fge (k : FloatKind) (x y : Nat) : Bool := k.format.order x y == some .gt || k.format.order x y == some .eq
section
variable (t : TypeId) (k : FloatKind) (a b : Nat)
@[go_sem high] theorem cmp_eql : binOp .eql t (.float k a) (.float k b) = pure (.bool (feq k (cn k a) (cn k b))) := by simp [binOp, Op.floatCmp, feq, order_cn]
@[go_sem high] theorem cmp_neq : binOp .neq t (.float k a) (.float k b) = pure (.bool (!feq k (cn k a) (cn k b))) := by simp [binOp, Op.floatCmp, feq, order_cn, bne]
@[go_sem high] theorem cmp_lss : binOp .lss t (.float k a) (.float k b) = pure (.bool (flt k (cn k a) (cn k b))) := by simp [binOp, Op.floatCmp, flt, order_cn]
@[go_sem high] theorem cmp_leq : binOp .leq t (.float k a) (.float k b) = pure (.bool (fle k (cn k a) (cn k b))) := by simp [binOp, Op.floatCmp, fle, order_cn]
@[go_sem high] theorem cmp_gtr : binOp .gtr t (.float k a) (.float k b) = pure (.bool (fgt k (cn k a) (cn k b))) := by simp [binOp, Op.floatCmp, fgt, order_cn]
@[go_sem high] theorem cmp_geq : binOp .geq t (.float k a) (.float k b) = pure (.bool (fge k (cn k a) (cn k b))) := by simp [binOp, Op.floatCmp, fge, order_cn]
end
/-- What a function that only computes leaves: a bool; a float; some draws. -/
def RB (w : World) (b : Bool) (e : Ending) (w' : World) : Prop := e = .returned (.bool b) ∧ ∃ n, w' = w.drewN n
def RF (w : World) (k : FloatKind) (c : Nat) (e : Ending) (w' : World) : Prop := ∃ r, e = .returned (.float k r) ∧ cn k r = c ∧ ∃ n, w' = w.drewN n
def RFB (w : World) (k : FloatKind) (c : Nat) (b : Bool) (e : Ending) (w' : World) : Prop := ∃ r, e = .returned (.tuple #[.float k r, .bool b]) ∧ cn k r = c ∧ ∃ n, w' = w.drewN n

theorem RB_as {P : Program} {f : FuncId} {args : Array Value} {w : World} {b b' : Bool} (h : Calls P f args w (RB w b)) (e : b = b') : Calls P f args w (RB w b') := e ▸ h

/-- One of the four operations. -/
def arithOp (op : BinOp) : Bool := match op with | .add | .sub | .mul | .quo => true | _ => false

section
variable {P : Program}

theorem run_fop (op : BinOp) (hop : arithOp op = true) (t : TypeId) (k : FloatKind) (x y : Nat) (w : World) :
    ∃ r n, (binOp op t (.float k x) (.float k y)).run P w = .ok (.float k r) (w.drewN n) ∧ cn k r = fop op k (cn k x) (cn k y) := by
  rw [fop_cn]
  cases h : floatBits op k x y with
  | some r => exact ⟨r, 0, run_float_arith w op t k x y r h, by rw [cn_of_not (floatBits_not_nan h)]; simp [fop, h]⟩
  | none =>
    have hr : (binOp op t (.float k x) (.float k y)).run P w = .ok (.float k ((Question.nanBits k x y).cut (w.tape w.drawn (.nanBits k x y)))) (w.drewN 1) := by
      have hf : (Question.nanBits k x y).forced = false := rfl
      cases op <;> simp [arithOp] at hop <;> simp only [floatBits] at h <;> simp [binOp, Op.floatArith, h, hf, World.drew_is_drewN]
    exact ⟨_, 1, hr, by rw [cn_of_isN (isN_nanBits _ _ _ _)]; simp [fop, h]⟩

theorem run_exec_fop {o : Oper} {ρ : Operand → Value} (op : BinOp) (hop : arithOp op = true) (t t' : TypeId) (X Y : Operand) (ho : o.op = .binOp op t X Y t') (k : FloatKind) (x y : Nat) (hx : ρ X = .float k x) (hy : ρ Y = .float k y) (w : World) :
    ∃ r n, (execOp ρ o).run P w = .ok (.value (.float k r)) (w.drewN n) ∧ cn k r = fop op k (cn k x) (cn k y) := by
  obtain ⟨r, n, h1, h2⟩ := run_fop (P := P) op hop t k x y w
  refine ⟨r, n, ?_, h2⟩
  have he : eqGuard op t X Y (.float k x) (.float k y) = pure () := by cases op <;> rfl
  unfold execOp
  rw [ho]
  simp [hx, hy, he, h1, Result.andThen]

theorem at_list {w : World} {ops : Array Oper} {rest : List Oper} {o : Oper} {a : Act} {Q : Exit → Act → World → Prop} (h : wpList P ops Q (o :: rest) a w) : wpList P ops Q (o :: rest) a w := h
theorem at_some {C : World → Prop} {ops : Array Oper} {rest : List Oper} {o : Oper} {a : Act} {Q : Act → Prop} (h : wpSome P ops C Q (o :: rest) a) : wpSome P ops C Q (o :: rest) a := h
/-- '+' ¦ '-' ¦ '*' ¦ '/' in a list of operations. -/
theorem wpList_fop {w : World} {ops : Array Oper} {rest : List Oper} {o : Oper} {a : Act} {Q : Exit → Act → World → Prop} (hg : o.guard = none) {op : BinOp} {t t' : TypeId} {X Y : Operand}
    (ho : o.op = .binOp op t X Y t') (hop : arithOp op = true) {k : FloatKind} {x y : Nat} (hx : a.eval X = .float k x) (hy : a.eval Y = .float k y)
    (h : ∀ r n, (∀ cx cy, cn k x = cx → cn k y = cy → cn k r = fop op k cx cy) → wpList P ops Q rest (a.put o.dst (.float k r)) (w.drewN n)) : wpList P ops Q (o :: rest) a w := by
  obtain ⟨r, n, h1, h2⟩ := run_exec_fop (P := P) op hop t t' X Y ho k x y hx hy w
  refine wpList_plain hg fun K hK => ?_
  unfold Oper.wp
  rw [h1]
  exact hK _ _ (h r n (by rintro cx cy rfl rfl; exact h2))

/-- The same under a guard that has said yes. -/
theorem wpList_fop_g {w : World} {ops : Array Oper} {rest : List Oper} {o : Oper} {a : Act} {Q : Exit → Act → World → Prop} {op : BinOp} {t t' : TypeId} {X Y : Operand}
    (ho : o.op = .binOp op t X Y t') (hop : arithOp op = true) {k : FloatKind} {x y : Nat} (hx : a.eval X = .float k x) (hy : a.eval Y = .float k y) (hw : Region.wanted o (yielded ops a.tmps) = true)
    (h : ∀ r n, (∀ cx cy, cn k x = cx → cn k y = cy → cn k r = fop op k cx cy) → wpList P ops Q rest (a.put o.dst (.float k r)) (w.drewN n)) : wpList P ops Q (o :: rest) a w := by
  obtain ⟨r, n, h1, h2⟩ := run_exec_fop (P := P) op hop t t' X Y ho k x y hx hy w
  refine wpList_step fun K hK => ?_
  rw [if_pos hw]
  unfold Oper.wp
  rw [h1]
  exact hK _ _ (h r n (by rintro cx cy rfl rfl; exact h2))

/-! ### The opposite -/
def fneg (k : FloatKind) (c : Nat) : Nat := if isN k c then qn k else Op.negFloat k c
theorem isN_neg (k : FloatKind) (b : Nat) : isN k (Op.negFloat k b) = isN k b := by
  have key : ∀ (f : Ieee.Format), (f.read (b ^^^ 2 ^ (f.exponentBits + f.fractionBits))).isNaN = (f.read b).isNaN := by
    intro f
    have e : (b ^^^ 2 ^ (f.exponentBits + f.fractionBits)) % f.signWeight = b % f.signWeight := by
      unfold Ieee.Format.signWeight
      rw [Nat.xor_mod_two_pow, Nat.mod_self, Nat.xor_zero]
    unfold Ieee.Format.read
    simp only [e]
    split
    · rfl
    · split
      · rfl
      · split <;> rfl
  cases k <;> exact key _
theorem cn_neg (k : FloatKind) (b : Nat) : cn k (Op.negFloat k b) = fneg k (cn k b) := by
  unfold fneg
  rw [isN_cn]
  by_cases h : isN k b = true
  · rw [if_pos h, cn_of_isN (by rw [isN_neg]; exact h)]
  · have h' : isN k b = false := by simpa using h
    rw [if_neg h, cn_of_not (by rw [isN_neg]; exact h'), cn_of_not h']
theorem wpList_neg {w : World} {ops : Array Oper} {rest : List Oper} {o : Oper} {a : Act} {Q : Exit → Act → World → Prop} (hg : o.guard = none) {t : TypeId} {X : Operand}
    (ho : o.op = .unOp .neg t X) {k : FloatKind} {x : Nat} (hx : a.eval X = .float k x)
    (h : ∀ r, (∀ cx, cn k x = cx → cn k r = fneg k cx) → wpList P ops Q rest (a.put o.dst (.float k r)) w) : wpList P ops Q (o :: rest) a w := by
  refine wpList_plain hg fun K hK => ?_
  unfold Oper.wp
  simp only [execOp, ho, hx]
  simp [Op.unary, Result.andThen]
  exact hK _ _ (h _ (by rintro cx rfl; exact cn_neg k x))

/-! ### Conversions -/
def wide (c : Nat) : Nat := if isN .f32 c then qn .f64 else FloatKind.f64.encode (FloatKind.f32.decode c)
def narrow (c : Nat) : Nat := if isN .f64 c then qn .f32 else FloatKind.f32.encode (FloatKind.f64.decode c)
/-- A 64-bit number that has a nearest 32-bit one: no finite one that is too great. -/
def fits (c : Nat) : Bool := isN .f64 c || (FloatKind.f64.decode c).isInfinity || !(FloatKind.f32.decode (FloatKind.f32.encode (FloatKind.f64.decode c))).isInfinity
theorem isN_nanConv (k : FloatKind) (b t : Nat) : isN k (Question.cut (.nanConv k b) t) = true := by
  have h := isN_nanBits k b b t
  cases k <;> exact h
theorem enc_not_nan (k : FloatKind) {d : Ieee.Datum} (h : d.isNaN = false) : isN k (k.encode d) = false := write_not_nan k.format h
theorem wide_cn (x : Nat) : wide (cn .f32 x) = wide x := by
  unfold wide
  by_cases h : isN .f32 x = true
  · rw [isN_cn, if_pos h, if_pos h]
  · rw [cn_of_not (by simpa using h)]
theorem narrow_cn (x : Nat) : narrow (cn .f64 x) = narrow x := by
  unfold narrow
  by_cases h : isN .f64 x = true
  · rw [isN_cn, if_pos h, if_pos h]
  · rw [cn_of_not (by simpa using h)]
theorem cn_wide (x : Nat) : cn .f64 (wide x) = wide x := by
  unfold wide
  split
  · exact cn_of_isN (isN_qn _)
  · rename_i h; exact cn_of_not (enc_not_nan _ (by simpa [isN] using h))
theorem cn_narrow (x : Nat) : cn .f32 (narrow x) = narrow x := by
  unfold narrow
  split
  · exact cn_of_isN (isN_qn _)
  · rename_i h; exact cn_of_not (enc_not_nan _ (by simpa [isN] using h))

theorem run_convF (s d : FloatKind) (hsd : s ≠ d) (src dst : TypeId) (x : Nat) (hs : P.underlying src = some (.float s)) (hd : P.underlying dst = some (.float d)) (w : World)
    (hfit : isN s x = true ∨ (s.decode x).isInfinity = true ∨ (d.decode (d.encode (s.decode x))).isInfinity = false) :
    ∃ r n, (convert src dst (.float s x)).run P w = .ok (.float d r) (w.drewN n) ∧ cn d r = if isN s x then qn d else d.encode (s.decode x) := by
  by_cases h : isN s x = true
  · obtain ⟨sg, tt, e⟩ := decode_nan h
    have e' : s.decode x = .nan sg tt := e
    have hf : (Question.nanConv d x).forced = false := rfl
    refine ⟨(Question.nanConv d x).cut (w.tape w.drawn (.nanConv d x)), 1, ?_, by rw [if_pos h, cn_of_isN (isN_nanConv _ _ _)]⟩
    simp [convert, run_underlying hs, run_underlying hd, Conv.floatToFloat, hsd, e', hf, World.drew_is_drewN]
  · rw [if_neg h]
    rcases hfit with h' | h' | h'
    · exact absurd h' h
    · have hb : floatToFloatBits s x d = some (d.encode (s.decode x)) := by
        unfold floatToFloatBits
        rw [if_neg hsd]
        cases hdd : s.decode x <;> simp_all [Ieee.Datum.isInfinity]
      exact ⟨_, 0, run_convert_float_float w src dst s d x _ (by rw [hs]; rfl) hd hb, cn_of_not (enc_not_nan _ (by simpa [isN] using h))⟩
    · have hb : floatToFloatBits s x d = some (d.encode (s.decode x)) := by
        unfold floatToFloatBits
        rw [if_neg hsd]
        cases hdd : s.decode x with
        | nan => rw [isN, hdd] at h; exact absurd rfl h
        | infinity => rfl
        | number => rw [hdd] at h'; simp only [h']; rfl
      exact ⟨_, 0, run_convert_float_float w src dst s d x _ (by rw [hs]; rfl) hd hb, cn_of_not (enc_not_nan _ (by simpa [isN] using h))⟩

theorem cut_zero (way : Ieee.Toward) (s : Bool) (n : Nat) : way.cut s n 0 = n := by
  have h0 : min 0 (n.log2 + 2) = 0 := by omega
  cases way <;> simp [Ieee.Toward.cut, h0, Nat.mod_one]
theorem shl_log2_lt (m k : Nat) : m <<< k < 2 ^ (m.log2 + k + 1) := by
  rw [Nat.shiftLeft_eq]
  have h1 : m < 2 ^ (m.log2 + 1) := Nat.lt_log2_self
  calc m * 2 ^ k < 2 ^ (m.log2 + 1) * 2 ^ k := Nat.mul_lt_mul_of_pos_right h1 (Nat.two_pow_pos _)
    _ = 2 ^ (m.log2 + k + 1) := by rw [← Nat.pow_add]; congr 1; omega
theorem read_word_small (f : Ieee.Format) (neg : Bool) {rung : Nat} (h : rung < f.infRung) : (f.read (f.word neg rung)).isInfinity = false := by
  have hlt : f.infRung < f.signWeight := f.infRung_lt
  have e : f.word neg rung % f.signWeight = rung := by
    unfold Ieee.Format.word
    split
    · rw [Nat.add_mod_left, Nat.mod_eq_of_lt (by omega)]
    · rw [Nat.mod_eq_of_lt (by omega)]
  unfold Ieee.Format.read
  simp only [e]
  split
  · rfl
  · first | rfl | (rw [if_pos h]; rfl)
theorem decode_single (x : Nat) : FloatKind.f32.decode x = if x % 2147483648 < 8388608 then .number (x / 2147483648 % 2 == 1) (x % 2147483648) (-149)
    else if x % 2147483648 < 2139095040 then .number (x / 2147483648 % 2 == 1) (8388608 + x % 2147483648 % 8388608) (-149 + ((x % 2147483648 / 8388608 - 1 : Nat) : Int))
    else if x % 2147483648 = 2139095040 then .infinity (x / 2147483648 % 2 == 1) else .nan (x / 2147483648 % 2 == 1) (x % 2147483648 - 2139095040) := rfl
theorem single_place {x : Nat} {s : Bool} {m : Nat} {p : Int} (h : FloatKind.f32.decode x = .number s m p) : m < 2 ^ 24 ∧ -149 ≤ p ∧ p ≤ 104 := by
  rw [decode_single] at h
  by_cases c1 : x % 2147483648 < 8388608
  · rw [if_pos c1] at h; simp only [Ieee.Datum.number.injEq] at h; omega
  · rw [if_neg c1] at h
    by_cases c2 : x % 2147483648 < 2139095040
    · rw [if_pos c2] at h; simp only [Ieee.Datum.number.injEq] at h; omega
    · rw [if_neg c2] at h
      by_cases c3 : x % 2147483648 = 2139095040
      · rw [if_pos c3] at h; cases h
      · rw [if_neg c3] at h; cases h
/-- A 32-bit number has a 64-bit one. -/
theorem wide_fits (x : Nat) : isN .f32 x = true ∨ (FloatKind.f32.decode x).isInfinity = true ∨ (FloatKind.f64.decode (FloatKind.f64.encode (FloatKind.f32.decode x))).isInfinity = false := by
  unfold isN
  cases h : FloatKind.f32.decode x with
  | nan => exact .inl rfl
  | infinity => exact .inr (.inl rfl)
  | number s m p =>
    refine .inr (.inr ?_)
    obtain ⟨hm, hp0, hp1⟩ := single_place h
    show (Ieee.double.read (Ieee.double.nearest s m p)).isInfinity = false
    unfold Ieee.Format.nearest
    by_cases hm0 : m = 0
    · rw [if_pos hm0]; exact read_word_small _ _ (by decide)
    · rw [if_neg hm0]
      have hl : m.log2 < 24 := (Nat.log2_lt hm0).2 hm
      have hlast : max (p + (m.log2 : Int) - (Ieee.double.fractionBits : Int)) Ieee.double.leastPlace = p + m.log2 - 52 := by
        simp only [Ieee.double, Ieee.Format.leastPlace]; omega
      simp only [hlast]
      have e1 : (p + (m.log2 : Int) - 52 - p).toNat = 0 := by omega
      have e2 : (p - (p + (m.log2 : Int) - 52)).toNat = 52 - m.log2 := by omega
      rw [e1, e2, cut_zero]
      refine read_word_small _ _ ?_
      have hk := shl_log2_lt m (52 - m.log2)
      rw [show m.log2 + (52 - m.log2) + 1 = 53 from by omega] at hk
      have hr : (p + (m.log2 : Int) - 52 - Ieee.double.leastPlace).toNat ≤ 1150 := by simp only [Ieee.double, Ieee.Format.leastPlace]; omega
      have hb : Ieee.double.binade = 2 ^ 52 := rfl
      have hi : Ieee.double.infRung = 2047 * 2 ^ 52 := rfl
      rw [hi, hb]
      have hmul : (p + (m.log2 : Int) - 52 - Ieee.double.leastPlace).toNat * 2 ^ 52 ≤ 1150 * 2 ^ 52 := Nat.mul_le_mul_right _ hr
      refine Nat.lt_of_le_of_lt (Nat.min_le_left ..) ?_
      omega

/-- 'float64(x)' of a float32. -/
theorem wpList_wide {w : World} {ops : Array Oper} {rest : List Oper} {o : Oper} {a : Act} {Q : Exit → Act → World → Prop} (hg : o.guard = none) {src dst : TypeId} {X : Operand}
    (ho : o.op = .convert src dst X) {x : Nat} (hx : a.eval X = .float .f32 x) (hs : P.underlying src = some (.float .f32)) (hd : P.underlying dst = some (.float .f64))
    (h : ∀ r n, (∀ cx, cn .f32 x = cx → cn .f64 r = wide cx) → wpList P ops Q rest (a.put o.dst (.float .f64 r)) (w.drewN n)) : wpList P ops Q (o :: rest) a w := by
  obtain ⟨r, n, h1, h2⟩ := run_convF (P := P) .f32 .f64 (by decide) src dst x hs hd w (wide_fits x)
  refine wpList_plain hg fun K hK => ?_
  unfold Oper.wp
  simp only [execOp, ho, hx]
  simp [h1, Result.andThen]
  exact hK _ _ (h r n (by rintro cx rfl; rw [h2, wide_cn]; rfl))

/-- The same under a guard that has said yes. -/
theorem wpList_wide_g {w : World} {ops : Array Oper} {rest : List Oper} {o : Oper} {a : Act} {Q : Exit → Act → World → Prop} {src dst : TypeId} {X : Operand}
    (ho : o.op = .convert src dst X) {x : Nat} (hx : a.eval X = .float .f32 x) (hs : P.underlying src = some (.float .f32)) (hd : P.underlying dst = some (.float .f64)) (hw : Region.wanted o (yielded ops a.tmps) = true)
    (h : ∀ r n, (∀ cx, cn .f32 x = cx → cn .f64 r = wide cx) → wpList P ops Q rest (a.put o.dst (.float .f64 r)) (w.drewN n)) : wpList P ops Q (o :: rest) a w := by
  obtain ⟨r, n, h1, h2⟩ := run_convF (P := P) .f32 .f64 (by decide) src dst x hs hd w (wide_fits x)
  refine wpList_step fun K hK => ?_
  rw [if_pos hw]
  unfold Oper.wp
  simp only [execOp, ho, hx]
  simp [h1, Result.andThen]
  exact hK _ _ (h r n (by rintro cx rfl; rw [h2, wide_cn]; rfl))

/-- 'float32(x)' of a float64 that fits. -/
theorem wpList_narrow {w : World} {ops : Array Oper} {rest : List Oper} {o : Oper} {a : Act} {Q : Exit → Act → World → Prop} (hg : o.guard = none) {src dst : TypeId} {X : Operand}
    (ho : o.op = .convert src dst X) {x : Nat} (hx : a.eval X = .float .f64 x) (hs : P.underlying src = some (.float .f64)) (hd : P.underlying dst = some (.float .f32)) {cx : Nat} (hcx : cn .f64 x = cx) (hfit : fits cx = true)
    (h : ∀ r n, cn .f32 r = narrow cx → wpList P ops Q rest (a.put o.dst (.float .f32 r)) (w.drewN n)) : wpList P ops Q (o :: rest) a w := by
  have hf : isN .f64 x = true ∨ (FloatKind.f64.decode x).isInfinity = true ∨ (FloatKind.f32.decode (FloatKind.f32.encode (FloatKind.f64.decode x))).isInfinity = false := by
    by_cases hn : isN .f64 x = true
    · exact .inl hn
    · rw [← hcx, cn_of_not (by simpa using hn)] at hfit
      simp only [fits, Bool.or_eq_true, Bool.not_eq_true'] at hfit
      rcases hfit with (h | h) | h
      · exact .inl h
      · exact .inr (.inl h)
      · exact .inr (.inr h)
  obtain ⟨r, n, h1, h2⟩ := run_convF (P := P) .f64 .f32 (by decide) src dst x hs hd w hf
  refine wpList_plain hg fun K hK => ?_
  unfold Oper.wp
  simp only [execOp, ho, hx]
  simp [h1, Result.andThen]
  exact hK _ _ (h r n (by rw [h2, ← hcx, narrow_cn]; rfl))

/-! ### In a region that draws its order -/

theorem someOf_of_quiet {C : World → Prop} {o : Oper} {a : Act} {K : Act → Prop} (h : o.quiet P a C K) : someOf P C o a K := by
  obtain ⟨v, h1, h2⟩ := h
  refine ⟨true, v, fun w hw => ?_, fun u hu => by simp only [inS, if_true] at hu; rw [hu]; exact h2⟩
  have h3 := h1 w hw
  unfold Oper.quietAt at h3
  cases hr : (execOp a.eval o).run P w with
  | ok n w' =>
    rw [hr] at h3
    cases n <;> simp only [Oper.quietUpon] at h3
    case value u => obtain ⟨rfl, rfl⟩ := h3; exact ⟨hw, inS_refl _ _⟩
    case skip => obtain ⟨rfl, rfl⟩ := h3; exact ⟨hw, inS_refl _ _⟩
    case enter f args =>
      obtain ⟨rfl, hc⟩ := h3
      exact hc.mono fun e w'' ⟨he, hC⟩ => ⟨v, he, inS_refl _ _, hC⟩
  | halt x w' => rw [hr] at h3; simp only [Oper.quietUpon] at h3

/-- One operation that the guide's quiet walk can run. -/
theorem wpSome_one {ops : Array Oper} {C : World → Prop} {Q : Act → Prop} {a : Act} {o : Oper} {rest : List Oper}
    (h : wpQuiet P ops C (fun a' => wpSome P ops C Q rest a') [o] a) : wpSome P ops C Q (o :: rest) a := by
  refine wpSome_cons ?_
  simp only [wpQuiet] at h
  split
  · rename_i hw; rw [if_pos hw] at h; exact someOf_of_quiet h
  · rename_i hw; rw [if_neg hw] at h; exact h

theorem norm_float {k : FloatKind} {c : Nat} (hc : cn k c = c) {v : Value} (h : inS false (.float k c) v) : ∃ r, v = .float k r ∧ cn k r = c := by
  simp only [inS, Bool.false_eq_true, if_false] at h
  cases v <;> simp [norm, norm1, hc] at h
  case float k' r => obtain ⟨rfl, h2⟩ := h; exact ⟨r, rfl, h2⟩

theorem wpSome_fop {w : World} {ops : Array Oper} {rest : List Oper} {o : Oper} {a : Act} {Q : Act → Prop} {op : BinOp} {t t' : TypeId} {X Y : Operand}
    (ho : o.op = .binOp op t X Y t') (hop : arithOp op = true) {k : FloatKind} {x y : Nat} (hx : a.eval X = .float k x) (hy : a.eval Y = .float k y) (hw : Region.wanted o (yielded ops a.tmps) = true)
    (h : ∀ r, (∀ cx cy, cn k x = cx → cn k y = cy → cn k r = fop op k cx cy) → wpSome P ops (fun w2 => ∃ n, w2 = w.drewN n) Q rest (a.put o.dst (.float k r))) : wpSome P ops (fun w2 => ∃ n, w2 = w.drewN n) Q (o :: rest) a := by
  refine wpSome_cons ?_
  rw [if_pos hw]
  refine ⟨false, .float k (fop op k (cn k x) (cn k y)), fun w' hC => ?_, fun v hv => ?_⟩
  · obtain ⟨m, rfl⟩ := hC
    obtain ⟨r, n, h1, h2⟩ := run_exec_fop (P := P) op hop t t' X Y ho k x y hx hy (w.drewN m)
    rw [h1]
    exact ⟨⟨m + n, by rw [World.drewN_drewN]⟩, by simp [inS, norm, norm1, h2, cn_fop]⟩
  · obtain ⟨r, rfl, hr⟩ := norm_float (cn_fop _ _ _ _) hv
    exact h r (by rintro cx cy rfl rfl; exact hr)

/-- A call that hands back a float, known but for a NaN's bits. -/
theorem wpSome_callF {w : World} {ops : Array Oper} {rest : List Oper} {o : Oper} {a : Act} {Q : Act → Prop} (hw : Region.wanted o (yielded ops a.tmps) = true) {f : FuncId} {args : Array Value}
    (hr : ∀ w', (execOp a.eval o).run P w' = .ok (.enter f args) w') {k : FloatKind} {c : Nat} (hcc : cn k c = c)
    (hc : ∀ m, Calls P f args (w.drewN m) fun e w' => ∃ r, e = .returned (.float k r) ∧ cn k r = c ∧ ∃ n, w' = (w.drewN m).drewN n)
    (h : ∀ r, cn k r = c → wpSome P ops (fun w2 => ∃ n, w2 = w.drewN n) Q rest (a.put o.dst (.float k r))) : wpSome P ops (fun w2 => ∃ n, w2 = w.drewN n) Q (o :: rest) a := by
  refine wpSome_cons ?_
  rw [if_pos hw]
  refine ⟨false, .float k c, fun w' hC => ?_, fun v hv => ?_⟩
  · obtain ⟨m, rfl⟩ := hC
    rw [hr]
    refine (hc m).mono ?_
    rintro e w' ⟨r, rfl, h2, n, rfl⟩
    exact ⟨_, rfl, by simp [inS, norm, norm1, h2, hcc], ⟨m + n, by rw [World.drewN_drewN]⟩⟩
  · obtain ⟨r, rfl, hr⟩ := norm_float hcc hv
    exact h r hr

theorem wpSome_neg {w : World} {ops : Array Oper} {rest : List Oper} {o : Oper} {a : Act} {Q : Act → Prop} {t : TypeId} {X : Operand}
    (ho : o.op = .unOp .neg t X) {k : FloatKind} {x : Nat} (hx : a.eval X = .float k x) (hw : Region.wanted o (yielded ops a.tmps) = true)
    (h : ∀ r, (∀ cx, cn k x = cx → cn k r = fneg k cx) → wpSome P ops (fun w2 => ∃ n, w2 = w.drewN n) Q rest (a.put o.dst (.float k r))) : wpSome P ops (fun w2 => ∃ n, w2 = w.drewN n) Q (o :: rest) a := by
  refine wpSome_cons ?_
  rw [if_pos hw]
  refine ⟨true, .float k (Op.negFloat k x), fun w' hC => ?_, fun v hv => ?_⟩
  · have hr : (execOp a.eval o).run P w' = .ok (.value (.float k (Op.negFloat k x))) w' := by
      simp only [execOp, ho, hx]
      simp [Op.unary, Result.andThen]
    rw [hr]
    exact ⟨hC, inS_refl _ _⟩
  · simp only [inS, if_true] at hv
    subst hv
    exact h _ (by rintro cx rfl; exact cn_neg k x)

end
end Go.Proofs.Ytldancjofgobnaa
