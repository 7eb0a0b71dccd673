/-
  Words and bits, whole parts, what is huge, the exponential function of any number (the program's and the reference's). No condition but what each contract says.
-/
import Derived.Test.YtldancjofgobnaaWvP
import Derived.Test.YtldancjofgobnaaStf
import Derived.Test.YtldancjofgobnaaFluxC
import Derived.Laws.Externs
import Derived.Laws.BitsAllLaws
set_option linter.unusedSimpArgs false
set_option linter.unusedVariables false
set_option linter.unusedSectionVars false
namespace Go.Proofs.Ytldancjofgobnaa
open Go Go.RowKit
open Go.ChangeShapes Go.WideShapes Go.ChangeAt Go.RowKit Go.Joins
/-- A call of what stands outside Go. -/
theorem wpList_ext {f : FuncId} {fn : Func} {e : Array Value → Sem Value} (hf : Try.prog.funcs[f]? = some fn) (h1 : (fn.name == "runtime.NumGoroutine") = false) (h2 : fn.body.isNone = true) (h3 : Extern.findNext fn = none) (h4 : Extern.find fn = some e)
    {w : World} {ops : Array Oper} {rest : List Oper} {o : Oper} {a : Act} {Q : Exit → Act → World → Prop} (hg : o.guard = none) {X : Operand} {T : TypeId}
    (ho : o.op = .call { callee := .value (.func f), args := #[X], argTypes := #[T] }) {x v : Value} (hx : a.eval X = x) (he : ∀ w, (e #[x]).run Try.prog w = .ok v w)
    (h : wpList Try.prog ops Q rest (a.put o.dst v) w) : wpList Try.prog ops Q (o :: rest) a w := by
  refine wpList_plain hg fun K hK => ?_
  have hc : (callFunc f #[x]).run Try.prog w = .ok (.value v) w := by rw [run_callFunc_extern hf h1 h2 h3 h4 #[x] w, he w]; rfl
  have hr : (execOp a.eval o).run Try.prog w = .ok (.value v) w := by
    unfold execOp
    simp only [ho, resolve, invoke, Sem.run_bind, Sem.run_pure, Result.andThen_ok, List.map_toArray, List.map_cons, List.map_nil, hx]
    have ef : a.eval (.func f) = .func (.func f) #[] #[] := rfl
    rw [ef]
    simp [Deferred.ofValue, hc, Result.andThen]
  unfold Oper.wp
  rw [hr]
  exact hK _ _ h
theorem wpList_from64 {w : World} {ops : Array Oper} {rest : List Oper} {o : Oper} {a : Act} {Q : Exit → Act → World → Prop} (hg : o.guard = none) {X : Operand} {T : TypeId}
    (ho : o.op = .call { callee := .value (.func 37), args := #[X], argTypes := #[T] }) {n : Int} (hx : a.eval X = .int .u64 n)
    (h : wpList Try.prog ops Q rest (a.put o.dst (.float .f64 n.toNat)) w) : wpList Try.prog ops Q (o :: rest) a w :=
  wpList_ext (e := Extern.MathFloatBits.float64frombits) Try.func37 (by kernel_rfl) (by kernel_rfl) (by kernel_rfl) (by kernel_rfl) hg ho hx (fun _ => rfl) h
theorem wpList_bits64 {w : World} {ops : Array Oper} {rest : List Oper} {o : Oper} {a : Act} {Q : Exit → Act → World → Prop} (hg : o.guard = none) {X : Operand} {T : TypeId}
    (ho : o.op = .call { callee := .value (.func 41), args := #[X], argTypes := #[T] }) {n : Nat} (hx : a.eval X = .float .f64 n)
    (h : wpList Try.prog ops Q rest (a.put o.dst (.int .u64 n)) w) : wpList Try.prog ops Q (o :: rest) a w :=
  wpList_ext (e := Extern.MathFloatBits.float64bits) Try.func41 (by kernel_rfl) (by kernel_rfl) (by kernel_rfl) (by kernel_rfl) hg ho hx (fun _ => rfl) h
theorem wpList_from32 {w : World} {ops : Array Oper} {rest : List Oper} {o : Oper} {a : Act} {Q : Exit → Act → World → Prop} (hg : o.guard = none) {X : Operand} {T : TypeId}
    (ho : o.op = .call { callee := .value (.func 33), args := #[X], argTypes := #[T] }) {n : Int} (hx : a.eval X = .int .u32 n)
    (h : wpList Try.prog ops Q rest (a.put o.dst (.float .f32 n.toNat)) w) : wpList Try.prog ops Q (o :: rest) a w :=
  wpList_ext (e := Extern.MathFloatBits.float32frombits) Try.func33 (by kernel_rfl) (by kernel_rfl) (by kernel_rfl) (by kernel_rfl) hg ho hx (fun _ => rfl) h
/-- The whole part's word as it is drawn outside. -/
def trW (x : Nat) : Nat := FloatKind.f64.encode ((FloatKind.f64.decode x).integral .zero)
theorem wpList_trunc {w : World} {ops : Array Oper} {rest : List Oper} {o : Oper} {a : Act} {Q : Exit → Act → World → Prop} (hg : o.guard = none) {X : Operand} {T : TypeId}
    (ho : o.op = .call { callee := .value (.func 42), args := #[X], argTypes := #[T] }) {n : Nat} (hx : a.eval X = .float .f64 n) (hn : fnt .f64 n = true)
    (h : wpList Try.prog ops Q rest (a.put o.dst (.float .f64 (trW n))) w) : wpList Try.prog ops Q (o :: rest) a w := by
  refine wpList_ext (e := Extern.MathFloor.toIntegral "math.archTrunc" .zero) Try.func42 (by kernel_rfl) (by kernel_rfl) (by kernel_rfl) (by kernel_rfl) hg ho hx (fun w => ?_) h
  obtain ⟨s, m, i, e⟩ := fnt_read hn
  have e' : FloatKind.f64.decode n = .number s m i := e
  have hq : Extern.MathFloor.toIntegral "math.archTrunc" .zero #[.float .f64 n] = (match FloatKind.f64.decode n with | .nan s t => (if FloatKind.f64.format.quiet t = t then pure (.float .f64 n) else (do let kept ← choose (.extern "math.Floor,Ceil,Trunc,RoundToEven.signallingNaN kept" 2); pure (.float .f64 (if kept == 1 then n else FloatKind.f64.encode (.nan s (FloatKind.f64.format.quiet t)))))) | d => pure (.float .f64 (FloatKind.f64.encode (d.integral .zero)))) := rfl
  unfold trW
  rw [hq, e']
  rfl
theorem trW_of {x : Nat} (h : Tame x) : (feq .f64 (cn .f64 (trW x)) (cn .f64 0) = true ∧ whW x = cn .f64 0) ∨ (feq .f64 (cn .f64 (trW x)) (cn .f64 0) = false ∧ whW x = trW x) := by
  obtain ⟨s, m, i, e⟩ := fnt_read h.1
  have hw := whW_val h
  obtain ⟨t1, t2⟩ := whW_of e
  have t3 := (trI_of e).2
  unfold trW
  rw [t3]
  by_cases h0 : trM m i = 0
  · rw [if_pos h0] at t2
    left
    refine ⟨?_, t2.trans (by decide +kernel)⟩
    rw [h0]
    cases s <;> decide +kernel
  · rw [if_neg h0] at t2
    right
    refine ⟨?_, t2⟩
    rw [← t2, fnt_cn hw.1, feqv hw.1 Vz.1, hw.2, Vz.2, t1]
    refine decide_eq_false (fun hz => ?_)
    have hz2 : (if s then -((trM m i : Nat) : Int) else ((trM m i : Nat) : Int)) = 0 := by exact_mod_cast hz
    cases s <;> simp at hz2 <;> omega
theorem mathTrunc_any (x : Nat) (w : World) (h : fnt .f64 x = true) : Calls Try.prog 39 #[.float .f64 x] w (BV w (.float .f64 (trW x))) := by
  go_enter Try.func39, Try.ntmps39
  go_wp2_with (first | (with_reducible refine at_list ?_; refine wpList_fop rfl rfl rfl rfl rfl ?_; intro r n hr0; have hr := hr0 _ _ (by first | with_reducible assumption | exact rfl) (by first | with_reducible assumption | exact rfl); clear hr0) | (with_reducible refine at_list ?_; refine wpList_neg rfl rfl rfl ?_; intro r hr0; have hr := hr0 _ (by first | with_reducible assumption | exact rfl); clear hr0) | (with_reducible refine at_list ?_; refine wpList_fop_g rfl rfl rfl rfl rfl ?_; intro r n hr0; have hr := hr0 _ _ (by first | with_reducible assumption | exact rfl) (by first | with_reducible assumption | exact rfl); clear hr0) | (with_reducible refine at_list ?_; refine wpList_wide_g rfl rfl Try.underlying22 Try.underlying32 rfl ?_; intro r n hr0; have hr := hr0 _ (by first | with_reducible assumption | exact rfl); clear hr0) | (with_reducible refine at_list ?_; refine wpList_wide rfl rfl rfl Try.underlying22 Try.underlying32 ?_; intro r n hr0; have hr := hr0 _ (by first | with_reducible assumption | exact rfl); clear hr0) | (with_reducible refine at_list ?_; refine wpList_trunc rfl rfl rfl h ?_))
  go_ret
  exact ⟨rfl, by (repeat (first | (with_reducible exact Below.refl _ _) | (with_reducible assumption) | (with_reducible refine below_then ?_ (by assumption)) | (with_reducible refine Below.trans ?_ (by assumption)) | (with_reducible refine below_drewN ?_ _) | (with_reducible apply Below.drew) | (with_reducible refine below_alloc ?_ _) | refine Below.setCell ?_ (by first | (simp; done) | (simp; omega)) _))⟩
set_option maxHeartbeats 1000000 in
theorem partOfTurn_any (x : Nat) (w : World) (h : Tame x) : Calls Try.prog 30 #[.float .f64 x] w (BF w .f64 (poT x)) := by
  have HT := Lib.hid (fun w => mathTrunc_any x w h.1)
  have hx : cn .f64 x = x := fnt_cn h.1
  have hd : poD x = fop .sub .f64 x (whW x) := rfl
  have hP : Hid (poT x = if flt .f64 (poD x) (cn .f64 0) then fop .add .f64 (poD x) (cn .f64 4607182418800017408) else poD x) := rfl
  rw [hP.out]
  rcases trW_of h with ⟨f1, f2⟩ | ⟨f1, f2⟩
  · rw [f2] at hd
    rcases f3 : flt .f64 (poD x) (cn .f64 0)
    all_goals
      rw [hd] at f3 ⊢
      clear h f2 hd hP
      go_enter Try.func30, Try.ntmps30
      go_wp2_with (first | (with_reducible refine at_list ?_; refine wpList_fop rfl rfl rfl rfl rfl ?_; intro r n hr0; have hr := hr0 _ _ (by first | with_reducible assumption | exact rfl) (by first | with_reducible assumption | exact rfl); clear hr0) | (with_reducible refine at_list ?_; refine wpList_neg rfl rfl rfl ?_; intro r hr0; have hr := hr0 _ (by first | with_reducible assumption | exact rfl); clear hr0) | (with_reducible refine at_list ?_; refine wpList_fop_g rfl rfl rfl rfl rfl ?_; intro r n hr0; have hr := hr0 _ _ (by first | with_reducible assumption | exact rfl) (by first | with_reducible assumption | exact rfl); clear hr0) | (with_reducible refine at_list ?_; refine wpList_wide_g rfl rfl Try.underlying22 Try.underlying32 rfl ?_; intro r n hr0; have hr := hr0 _ (by first | with_reducible assumption | exact rfl); clear hr0) | (with_reducible refine at_list ?_; refine wpList_wide rfl rfl rfl Try.underlying22 Try.underlying32 ?_; intro r n hr0; have hr := hr0 _ (by first | with_reducible assumption | exact rfl); clear hr0) | (go_at_call 39; refine ((HT.out _) ).mono ?_; rintro e w' ⟨rfl, hb⟩; obtain ⟨hT, hk⟩ := bv_next hb (by (repeat (with_reducible first | assumption | apply Trk.alloc | apply Trk.setCell | apply Trk.drewN | apply Trk.drew | exact Trk.nil _))); simp only [SameOn, World.size_alloc, World.size_setCell, World.size_drew, size_drewN', and_true] at hk; have hsz := Below.size hb; (try simp only [World.size_alloc, World.size_setCell, World.size_drew, size_drewN'] at hsz)))
      go_ret
      exact ⟨_, rfl, by simp only [*] <;> rfl, by (repeat (first | (with_reducible exact Below.refl _ _) | (with_reducible assumption) | (with_reducible refine below_then ?_ (by assumption)) | (with_reducible refine Below.trans ?_ (by assumption)) | (with_reducible refine below_drewN ?_ _) | (with_reducible apply Below.drew) | (with_reducible refine below_alloc ?_ _) | refine Below.setCell ?_ (by first | (simp; done) | (simp; omega)) _))⟩
  · rw [f2] at hd
    rcases f3 : flt .f64 (poD x) (cn .f64 0)
    all_goals
      rw [hd] at f3 ⊢
      have hw : cn .f64 (trW x) = trW x := by rw [← f2]; exact cn_whW x
      rw [hw] at f1
      clear h f2 hd hP
      generalize trW x = t at *
      go_enter Try.func30, Try.ntmps30
      go_wp2_with (first | (with_reducible refine at_list ?_; refine wpList_fop rfl rfl rfl rfl rfl ?_; intro r n hr0; have hr := hr0 _ _ (by first | with_reducible assumption | exact rfl) (by first | with_reducible assumption | exact rfl); clear hr0) | (with_reducible refine at_list ?_; refine wpList_neg rfl rfl rfl ?_; intro r hr0; have hr := hr0 _ (by first | with_reducible assumption | exact rfl); clear hr0) | (with_reducible refine at_list ?_; refine wpList_fop_g rfl rfl rfl rfl rfl ?_; intro r n hr0; have hr := hr0 _ _ (by first | with_reducible assumption | exact rfl) (by first | with_reducible assumption | exact rfl); clear hr0) | (with_reducible refine at_list ?_; refine wpList_wide_g rfl rfl Try.underlying22 Try.underlying32 rfl ?_; intro r n hr0; have hr := hr0 _ (by first | with_reducible assumption | exact rfl); clear hr0) | (with_reducible refine at_list ?_; refine wpList_wide rfl rfl rfl Try.underlying22 Try.underlying32 ?_; intro r n hr0; have hr := hr0 _ (by first | with_reducible assumption | exact rfl); clear hr0) | (go_at_call 39; refine ((HT.out _) ).mono ?_; rintro e w' ⟨rfl, hb⟩; obtain ⟨hT, hk⟩ := bv_next hb (by (repeat (with_reducible first | assumption | apply Trk.alloc | apply Trk.setCell | apply Trk.drewN | apply Trk.drew | exact Trk.nil _))); simp only [SameOn, World.size_alloc, World.size_setCell, World.size_drew, size_drewN', and_true] at hk; have hsz := Below.size hb; (try simp only [World.size_alloc, World.size_setCell, World.size_drew, size_drewN'] at hsz)))
      go_ret
      exact ⟨_, rfl, by simp only [*] <;> rfl, by (repeat (first | (with_reducible exact Below.refl _ _) | (with_reducible assumption) | (with_reducible refine below_then ?_ (by assumption)) | (with_reducible refine Below.trans ?_ (by assumption)) | (with_reducible refine below_drewN ?_ _) | (with_reducible apply Below.drew) | (with_reducible refine below_alloc ?_ _) | refine Below.setCell ?_ (by first | (simp; done) | (simp; omega)) _))⟩
theorem abs_word {x : Nat} (hx : x < 18446744073709551616) : x &&& (18446744073709551615 - 9223372036854775808) = x % 9223372036854775808 := by
  rw [show 18446744073709551615 - 9223372036854775808 = 2 ^ 63 - 1 by decide, Nat.and_two_pow_sub_one_eq_mod]
theorem mathAbs_any (x : Nat) (w : World) (h : x < 18446744073709551616) : Calls Try.prog 38 #[.float .f64 x] w (BV w (.float .f64 (x % 9223372036854775808))) := by
  have hb : Go.bits .andNot .u64 (x : Int) (9223372036854775808 : Int) = ((x % 9223372036854775808 : Nat) : Int) := by
    have := u64_andNot_nat x 9223372036854775808 h (by decide)
    rw [abs_word h] at this
    exact this
  go_enter Try.func38, Try.ntmps38
  go_wp2_with (first | (with_reducible refine at_list ?_; refine wpList_fop rfl rfl rfl rfl rfl ?_; intro r n hr0; have hr := hr0 _ _ (by first | with_reducible assumption | exact rfl) (by first | with_reducible assumption | exact rfl); clear hr0) | (with_reducible refine at_list ?_; refine wpList_neg rfl rfl rfl ?_; intro r hr0; have hr := hr0 _ (by first | with_reducible assumption | exact rfl); clear hr0) | (with_reducible refine at_list ?_; refine wpList_fop_g rfl rfl rfl rfl rfl ?_; intro r n hr0; have hr := hr0 _ _ (by first | with_reducible assumption | exact rfl) (by first | with_reducible assumption | exact rfl); clear hr0) | (with_reducible refine at_list ?_; refine wpList_wide_g rfl rfl Try.underlying22 Try.underlying32 rfl ?_; intro r n hr0; have hr := hr0 _ (by first | with_reducible assumption | exact rfl); clear hr0) | (with_reducible refine at_list ?_; refine wpList_wide rfl rfl rfl Try.underlying22 Try.underlying32 ?_; intro r n hr0; have hr := hr0 _ (by first | with_reducible assumption | exact rfl); clear hr0) | (with_reducible refine at_list ?_; refine wpList_bits64 rfl rfl rfl ?_) | (with_reducible refine at_list ?_; refine wpList_from64 rfl rfl rfl ?_))
  go_ret
  exact ⟨by first | rfl | (simp only [*]; rfl), by (repeat (first | (with_reducible exact Below.refl _ _) | (with_reducible assumption) | (with_reducible refine below_then ?_ (by assumption)) | (with_reducible refine Below.trans ?_ (by assumption)) | (with_reducible refine below_drewN ?_ _) | (with_reducible apply Below.drew) | (with_reducible refine below_alloc ?_ _) | refine Below.setCell ?_ (by first | (simp; done) | (simp; omega)) _))⟩
theorem abs_val {x : Nat} (h : fnt .f64 x = true) : fnt .f64 (x % 9223372036854775808) = true ∧ (fv .f64 (x % 9223372036854775808) = fv .f64 x ∧ 0 ≤ fv .f64 x ∨ fv .f64 (x % 9223372036854775808) = -fv .f64 x ∧ fv .f64 x ≤ 0) := by
  obtain ⟨s, m, i, e⟩ := fnt_read h
  have key : FloatKind.f64.format.read (x % 9223372036854775808) = .number false m i := by
    have e2 := e
    unfold Ieee.Format.read at e2 ⊢
    have sw : FloatKind.f64.format.signWeight = 9223372036854775808 := by decide
    rw [sw] at e2 ⊢
    have d0 : x % 9223372036854775808 / 9223372036854775808 = 0 := Nat.div_eq_of_lt (Nat.mod_lt _ (by decide))
    rw [d0, Nat.mod_mod]
    have b0 : ((0 % 2 : Nat) == 1) = false := rfl
    rw [b0]
    dsimp only at e2 ⊢
    split at e2
    · rename_i hc; rw [if_pos hc]; cases e2; rfl
    · rename_i hc
      rw [if_neg hc]
      split at e2
      · rename_i hc2; rw [if_pos hc2]; cases e2; rfl
      · split at e2 <;> cases e2
  obtain ⟨a0, a1⟩ := fv_of key
  obtain ⟨_, c1⟩ := fv_of e
  have mp : 0 ≤ (m : Rat) * tp i := Rat.mul_nonneg (by exact_mod_cast Nat.zero_le m) (Rat.le_of_lt (tp_pos i))
  refine ⟨a0, ?_⟩
  rw [a1, c1]
  cases s
  · exact .inl ⟨rfl, by have : sg false = 1 := rfl; rw [this]; grind⟩
  · exact .inr ⟨by have h1 : sg false = 1 := rfl; have h2 : sg true = -1 := rfl; rw [h1, h2]; grind, by have h2 : sg true = -1 := rfl; rw [h2]; grind⟩
theorem isHuge_any (x : Nat) (w : World) (h : fnt .f64 x = true) (hlt : x < 18446744073709551616) {b : Bool} (hb : fge .f64 (cn .f64 (x % 9223372036854775808)) (cn .f64 4841369599423283200) = b) : Calls Try.prog 29 #[.float .f64 x] w (BV w (.bool b)) := by
  have HA := Lib.hid (fun w => mathAbs_any x w hlt)
  generalize x % 9223372036854775808 = y at *
  cases b
  all_goals
    go_enter Try.func29, Try.ntmps29
    go_wp2_with (first | (with_reducible refine at_list ?_; refine wpList_fop rfl rfl rfl rfl rfl ?_; intro r n hr0; have hr := hr0 _ _ (by first | with_reducible assumption | exact rfl) (by first | with_reducible assumption | exact rfl); clear hr0) | (with_reducible refine at_list ?_; refine wpList_neg rfl rfl rfl ?_; intro r hr0; have hr := hr0 _ (by first | with_reducible assumption | exact rfl); clear hr0) | (with_reducible refine at_list ?_; refine wpList_fop_g rfl rfl rfl rfl rfl ?_; intro r n hr0; have hr := hr0 _ _ (by first | with_reducible assumption | exact rfl) (by first | with_reducible assumption | exact rfl); clear hr0) | (with_reducible refine at_list ?_; refine wpList_wide_g rfl rfl Try.underlying22 Try.underlying32 rfl ?_; intro r n hr0; have hr := hr0 _ (by first | with_reducible assumption | exact rfl); clear hr0) | (with_reducible refine at_list ?_; refine wpList_wide rfl rfl rfl Try.underlying22 Try.underlying32 ?_; intro r n hr0; have hr := hr0 _ (by first | with_reducible assumption | exact rfl); clear hr0) | (go_at_call 38; refine ((HA.out _) ).mono ?_; rintro e w' ⟨rfl, hb⟩; obtain ⟨hT, hk⟩ := bv_next hb (by (repeat (with_reducible first | assumption | apply Trk.alloc | apply Trk.setCell | apply Trk.drewN | apply Trk.drew | exact Trk.nil _))); simp only [SameOn, World.size_alloc, World.size_setCell, World.size_drew, size_drewN', and_true] at hk; have hsz := Below.size hb; (try simp only [World.size_alloc, World.size_setCell, World.size_drew, size_drewN'] at hsz)))
    go_ret
    exact ⟨rfl, by (repeat (first | (with_reducible exact Below.refl _ _) | (with_reducible assumption) | (with_reducible refine below_then ?_ (by assumption)) | (with_reducible refine Below.trans ?_ (by assumption)) | (with_reducible refine below_drewN ?_ _) | (with_reducible apply Below.drew) | (with_reducible refine below_alloc ?_ _) | refine Below.setCell ?_ (by first | (simp; done) | (simp; omega)) _))⟩
theorem V52 : V .f64 (cn .f64 4841369599423283200) 4503599627370496 := ⟨by decide +kernel, by decide +kernel⟩
theorem V52n : V .f64 (cn .f64 14064741636278059008) (-4503599627370496) := ⟨by decide +kernel, by decide +kernel⟩
/-- What is not huge. -/
theorem tame_not {x : Nat} (h : Tame x) : fge .f64 (cn .f64 (x % 9223372036854775808)) (cn .f64 4841369599423283200) = false ∧ fge .f64 x (cn .f64 4841369599423283200) = false ∧ fle .f64 x (cn .f64 14064741636278059008) = false := by
  obtain ⟨h0, h1, h2⟩ := h
  obtain ⟨a0, a1⟩ := abs_val h0
  refine ⟨?_, ?_, ?_⟩
  · rw [fnt_cn a0, fgev a0 V52.1, V52.2]
    exact decide_eq_false (by rcases a1 with ⟨a, _⟩ | ⟨a, _⟩ <;> grind)
  · rw [fgev h0 V52.1, V52.2]; exact decide_eq_false (by grind)
  · rw [flev h0 V52n.1, V52n.2]; exact decide_eq_false (by grind)
theorem huge_not {x : Nat} (h : fnt .f64 x = true) (h1 : fv .f64 x ≤ -4503599627370496) : fge .f64 (cn .f64 (x % 9223372036854775808)) (cn .f64 4841369599423283200) = true ∧ fge .f64 x (cn .f64 4841369599423283200) = false ∧ fle .f64 x (cn .f64 14064741636278059008) = true := by
  obtain ⟨a0, a1⟩ := abs_val h
  refine ⟨?_, ?_, ?_⟩
  · rw [fnt_cn a0, fgev a0 V52.1, V52.2]
    exact decide_eq_true (by rcases a1 with ⟨a, _⟩ | ⟨a, _⟩ <;> grind)
  · rw [fgev h V52.1, V52.2]; exact decide_eq_false (by grind)
  · rw [flev h V52n.1, V52n.2]; exact decide_eq_true h1
theorem mathNaN_any (w : World) : Calls Try.prog 28 #[] w (BF w .f64 (qn .f64)) := by
  go_enter Try.func28, Try.ntmps28
  go_wp2_with (first | (with_reducible refine at_list ?_; refine wpList_fop rfl rfl rfl rfl rfl ?_; intro r n hr0; have hr := hr0 _ _ (by first | with_reducible assumption | exact rfl) (by first | with_reducible assumption | exact rfl); clear hr0) | (with_reducible refine at_list ?_; refine wpList_neg rfl rfl rfl ?_; intro r hr0; have hr := hr0 _ (by first | with_reducible assumption | exact rfl); clear hr0) | (with_reducible refine at_list ?_; refine wpList_fop_g rfl rfl rfl rfl rfl ?_; intro r n hr0; have hr := hr0 _ _ (by first | with_reducible assumption | exact rfl) (by first | with_reducible assumption | exact rfl); clear hr0) | (with_reducible refine at_list ?_; refine wpList_wide_g rfl rfl Try.underlying22 Try.underlying32 rfl ?_; intro r n hr0; have hr := hr0 _ (by first | with_reducible assumption | exact rfl); clear hr0) | (with_reducible refine at_list ?_; refine wpList_wide rfl rfl rfl Try.underlying22 Try.underlying32 ?_; intro r n hr0; have hr := hr0 _ (by first | with_reducible assumption | exact rfl); clear hr0) | (with_reducible refine at_list ?_; refine wpList_from64 rfl rfl rfl ?_))
  go_ret
  exact ⟨_, rfl, by decide +kernel, by (repeat (first | (with_reducible exact Below.refl _ _) | (with_reducible assumption) | (with_reducible refine below_then ?_ (by assumption)) | (with_reducible refine Below.trans ?_ (by assumption)) | (with_reducible refine below_drewN ?_ _) | (with_reducible apply Below.drew) | (with_reducible refine below_alloc ?_ _) | refine Below.setCell ?_ (by first | (simp; done) | (simp; omega)) _))⟩
theorem mathInf_any (w : World) : Calls Try.prog 34 #[.int .i64 1] w (BF w .f64 (cn .f64 9218868437227405312)) := by
  go_enter Try.func34, Try.ntmps34
  go_wp2_with (first | (with_reducible refine at_list ?_; refine wpList_fop rfl rfl rfl rfl rfl ?_; intro r n hr0; have hr := hr0 _ _ (by first | with_reducible assumption | exact rfl) (by first | with_reducible assumption | exact rfl); clear hr0) | (with_reducible refine at_list ?_; refine wpList_neg rfl rfl rfl ?_; intro r hr0; have hr := hr0 _ (by first | with_reducible assumption | exact rfl); clear hr0) | (with_reducible refine at_list ?_; refine wpList_fop_g rfl rfl rfl rfl rfl ?_; intro r n hr0; have hr := hr0 _ _ (by first | with_reducible assumption | exact rfl) (by first | with_reducible assumption | exact rfl); clear hr0) | (with_reducible refine at_list ?_; refine wpList_wide_g rfl rfl Try.underlying22 Try.underlying32 rfl ?_; intro r n hr0; have hr := hr0 _ (by first | with_reducible assumption | exact rfl); clear hr0) | (with_reducible refine at_list ?_; refine wpList_wide rfl rfl rfl Try.underlying22 Try.underlying32 ?_; intro r n hr0; have hr := hr0 _ (by first | with_reducible assumption | exact rfl); clear hr0) | (with_reducible refine at_list ?_; refine wpList_from64 rfl rfl rfl ?_))
  go_ret
  exact ⟨_, rfl, rfl, by (repeat (first | (with_reducible exact Below.refl _ _) | (with_reducible assumption) | (with_reducible refine below_then ?_ (by assumption)) | (with_reducible refine Below.trans ?_ (by assumption)) | (with_reducible refine below_drewN ?_ _) | (with_reducible apply Below.drew) | (with_reducible refine below_alloc ?_ _) | refine Below.setCell ?_ (by first | (simp; done) | (simp; omega)) _))⟩
theorem l01From_nan (w : World) : Calls Try.prog 21 #[.int .i64 2143289344] w (BF w .f32 (qn .f32)) := by
  go_enter Try.func21, Try.ntmps21
  go_wp2_with (first | (with_reducible refine at_list ?_; refine wpList_fop rfl rfl rfl rfl rfl ?_; intro r n hr0; have hr := hr0 _ _ (by first | with_reducible assumption | exact rfl) (by first | with_reducible assumption | exact rfl); clear hr0) | (with_reducible refine at_list ?_; refine wpList_neg rfl rfl rfl ?_; intro r hr0; have hr := hr0 _ (by first | with_reducible assumption | exact rfl); clear hr0) | (with_reducible refine at_list ?_; refine wpList_fop_g rfl rfl rfl rfl rfl ?_; intro r n hr0; have hr := hr0 _ _ (by first | with_reducible assumption | exact rfl) (by first | with_reducible assumption | exact rfl); clear hr0) | (with_reducible refine at_list ?_; refine wpList_wide_g rfl rfl Try.underlying22 Try.underlying32 rfl ?_; intro r n hr0; have hr := hr0 _ (by first | with_reducible assumption | exact rfl); clear hr0) | (with_reducible refine at_list ?_; refine wpList_wide rfl rfl rfl Try.underlying22 Try.underlying32 ?_; intro r n hr0; have hr := hr0 _ (by first | with_reducible assumption | exact rfl); clear hr0) | (with_reducible refine at_list ?_; refine wpList_from32 rfl rfl rfl ?_))
  go_ret
  exact ⟨_, rfl, by decide +kernel, by (repeat (first | (with_reducible exact Below.refl _ _) | (with_reducible assumption) | (with_reducible refine below_then ?_ (by assumption)) | (with_reducible refine Below.trans ?_ (by assumption)) | (with_reducible refine below_drewN ?_ _) | (with_reducible apply Below.drew) | (with_reducible refine below_alloc ?_ _) | refine Below.setCell ?_ (by first | (simp; done) | (simp; omega)) _))⟩
/-! ### The exponential function -/
def exG (x : Nat) : Nat := if fgt .f64 x (cn .f64 4641240890982006784) then cn .f64 9218868437227405312 else if flt .f64 x (cn .f64 13864612927836782592) then cn .f64 0 else exV x
theorem cn_exG (x : Nat) : cn .f64 (exG x) = exG x := by
  unfold exG
  split
  · exact cn_cn _ _
  · split
    · exact cn_cn _ _
    · exact cn_exV _
theorem exponential_g (x : Nat) (w : World) (h : feq .f64 (cn .f64 x) (cn .f64 x) = true) : Calls Try.prog 32 #[.float .f64 x] w (BF w .f64 (exG (cn .f64 x))) := by
  have HE : Hid (exG (cn .f64 x) = if fgt .f64 (cn .f64 x) (cn .f64 4641240890982006784) then cn .f64 9218868437227405312 else if flt .f64 (cn .f64 x) (cn .f64 13864612927836782592) then cn .f64 0 else exV (cn .f64 x)) := rfl
  rw [HE.out]
  rcases f1 : fgt .f64 (cn .f64 x) (cn .f64 4641240890982006784)
  · rcases f2 : flt .f64 (cn .f64 x) (cn .f64 13864612927836782592)
    · exact (exponential_any x w ⟨h, f1, f2⟩).mono fun e w' hh => RF.bf hh
    · clear HE
      go_enter Try.func32, Try.ntmps32
      go_wp2_with (first | (with_reducible refine at_list ?_; refine wpList_fop rfl rfl rfl rfl rfl ?_; intro r n hr0; have hr := hr0 _ _ (by first | with_reducible assumption | exact rfl) (by first | with_reducible assumption | exact rfl); clear hr0) | (with_reducible refine at_list ?_; refine wpList_neg rfl rfl rfl ?_; intro r hr0; have hr := hr0 _ (by first | with_reducible assumption | exact rfl); clear hr0) | (with_reducible refine at_list ?_; refine wpList_fop_g rfl rfl rfl rfl rfl ?_; intro r n hr0; have hr := hr0 _ _ (by first | with_reducible assumption | exact rfl) (by first | with_reducible assumption | exact rfl); clear hr0) | (with_reducible refine at_list ?_; refine wpList_wide_g rfl rfl Try.underlying22 Try.underlying32 rfl ?_; intro r n hr0; have hr := hr0 _ (by first | with_reducible assumption | exact rfl); clear hr0) | (with_reducible refine at_list ?_; refine wpList_wide rfl rfl rfl Try.underlying22 Try.underlying32 ?_; intro r n hr0; have hr := hr0 _ (by first | with_reducible assumption | exact rfl); clear hr0))
      go_ret
      exact ⟨_, rfl, rfl, by (repeat (first | (with_reducible exact Below.refl _ _) | (with_reducible assumption) | (with_reducible refine below_then ?_ (by assumption)) | (with_reducible refine Below.trans ?_ (by assumption)) | (with_reducible refine below_drewN ?_ _) | (with_reducible apply Below.drew) | (with_reducible refine below_alloc ?_ _) | refine Below.setCell ?_ (by first | (simp; done) | (simp; omega)) _))⟩
  · clear HE
    go_enter Try.func32, Try.ntmps32
    go_wp2_with (first | (with_reducible refine at_list ?_; refine wpList_fop rfl rfl rfl rfl rfl ?_; intro r n hr0; have hr := hr0 _ _ (by first | with_reducible assumption | exact rfl) (by first | with_reducible assumption | exact rfl); clear hr0) | (with_reducible refine at_list ?_; refine wpList_neg rfl rfl rfl ?_; intro r hr0; have hr := hr0 _ (by first | with_reducible assumption | exact rfl); clear hr0) | (with_reducible refine at_list ?_; refine wpList_fop_g rfl rfl rfl rfl rfl ?_; intro r n hr0; have hr := hr0 _ _ (by first | with_reducible assumption | exact rfl) (by first | with_reducible assumption | exact rfl); clear hr0) | (with_reducible refine at_list ?_; refine wpList_wide_g rfl rfl Try.underlying22 Try.underlying32 rfl ?_; intro r n hr0; have hr := hr0 _ (by first | with_reducible assumption | exact rfl); clear hr0) | (with_reducible refine at_list ?_; refine wpList_wide rfl rfl rfl Try.underlying22 Try.underlying32 ?_; intro r n hr0; have hr := hr0 _ (by first | with_reducible assumption | exact rfl); clear hr0) | (go_at_call 34; refine ((mathInf_any _) ).mono ?_; rintro e w' ⟨r, rfl, hr, hb⟩; obtain ⟨hT, hk⟩ := bv_next hb (by (repeat (with_reducible first | assumption | apply Trk.alloc | apply Trk.setCell | apply Trk.drewN | apply Trk.drew | exact Trk.nil _))); simp only [SameOn, World.size_alloc, World.size_setCell, World.size_drew, size_drewN', and_true] at hk; have hsz := Below.size hb; (try simp only [World.size_alloc, World.size_setCell, World.size_drew, size_drewN'] at hsz)))
    go_ret
    exact ⟨_, rfl, by simp only [*] <;> rfl, by (repeat (first | (with_reducible exact Below.refl _ _) | (with_reducible assumption) | (with_reducible refine below_then ?_ (by assumption)) | (with_reducible refine Below.trans ?_ (by assumption)) | (with_reducible refine below_drewN ?_ _) | (with_reducible apply Below.drew) | (with_reducible refine below_alloc ?_ _) | refine Below.setCell ?_ (by first | (simp; done) | (simp; omega)) _))⟩
theorem l01ExpWide_g (x : Nat) (w : World) (h : feq .f64 (cn .f64 x) (cn .f64 x) = true) : Calls Try.prog 24 #[.float .f64 x] w (BF w .f64 (exG (cn .f64 x))) := by
  have HE : Hid (exG (cn .f64 x) = if fgt .f64 (cn .f64 x) (cn .f64 4641240890982006784) then cn .f64 9218868437227405312 else if flt .f64 (cn .f64 x) (cn .f64 13864612927836782592) then cn .f64 0 else exV (cn .f64 x)) := rfl
  rw [HE.out]
  rcases f1 : fgt .f64 (cn .f64 x) (cn .f64 4641240890982006784)
  · rcases f2 : flt .f64 (cn .f64 x) (cn .f64 13864612927836782592)
    · exact (l01ExpWide_any x w ⟨h, f1, f2⟩).mono fun e w' hh => RF.bf hh
    · clear HE
      go_enter Try.func24, Try.ntmps24
      go_wp2_with (first | (with_reducible refine at_list ?_; refine wpList_fop rfl rfl rfl rfl rfl ?_; intro r n hr0; have hr := hr0 _ _ (by first | with_reducible assumption | exact rfl) (by first | with_reducible assumption | exact rfl); clear hr0) | (with_reducible refine at_list ?_; refine wpList_neg rfl rfl rfl ?_; intro r hr0; have hr := hr0 _ (by first | with_reducible assumption | exact rfl); clear hr0) | (with_reducible refine at_list ?_; refine wpList_fop_g rfl rfl rfl rfl rfl ?_; intro r n hr0; have hr := hr0 _ _ (by first | with_reducible assumption | exact rfl) (by first | with_reducible assumption | exact rfl); clear hr0) | (with_reducible refine at_list ?_; refine wpList_wide_g rfl rfl Try.underlying22 Try.underlying32 rfl ?_; intro r n hr0; have hr := hr0 _ (by first | with_reducible assumption | exact rfl); clear hr0) | (with_reducible refine at_list ?_; refine wpList_wide rfl rfl rfl Try.underlying22 Try.underlying32 ?_; intro r n hr0; have hr := hr0 _ (by first | with_reducible assumption | exact rfl); clear hr0))
      go_ret
      exact ⟨_, rfl, rfl, by (repeat (first | (with_reducible exact Below.refl _ _) | (with_reducible assumption) | (with_reducible refine below_then ?_ (by assumption)) | (with_reducible refine Below.trans ?_ (by assumption)) | (with_reducible refine below_drewN ?_ _) | (with_reducible apply Below.drew) | (with_reducible refine below_alloc ?_ _) | refine Below.setCell ?_ (by first | (simp; done) | (simp; omega)) _))⟩
  · clear HE
    go_enter Try.func24, Try.ntmps24
    go_wp2_with (first | (with_reducible refine at_list ?_; refine wpList_fop rfl rfl rfl rfl rfl ?_; intro r n hr0; have hr := hr0 _ _ (by first | with_reducible assumption | exact rfl) (by first | with_reducible assumption | exact rfl); clear hr0) | (with_reducible refine at_list ?_; refine wpList_neg rfl rfl rfl ?_; intro r hr0; have hr := hr0 _ (by first | with_reducible assumption | exact rfl); clear hr0) | (with_reducible refine at_list ?_; refine wpList_fop_g rfl rfl rfl rfl rfl ?_; intro r n hr0; have hr := hr0 _ _ (by first | with_reducible assumption | exact rfl) (by first | with_reducible assumption | exact rfl); clear hr0) | (with_reducible refine at_list ?_; refine wpList_wide_g rfl rfl Try.underlying22 Try.underlying32 rfl ?_; intro r n hr0; have hr := hr0 _ (by first | with_reducible assumption | exact rfl); clear hr0) | (with_reducible refine at_list ?_; refine wpList_wide rfl rfl rfl Try.underlying22 Try.underlying32 ?_; intro r n hr0; have hr := hr0 _ (by first | with_reducible assumption | exact rfl); clear hr0) | (go_at_call 34; refine ((mathInf_any _) ).mono ?_; rintro e w' ⟨r, rfl, hr, hb⟩; obtain ⟨hT, hk⟩ := bv_next hb (by (repeat (with_reducible first | assumption | apply Trk.alloc | apply Trk.setCell | apply Trk.drewN | apply Trk.drew | exact Trk.nil _))); simp only [SameOn, World.size_alloc, World.size_setCell, World.size_drew, size_drewN', and_true] at hk; have hsz := Below.size hb; (try simp only [World.size_alloc, World.size_setCell, World.size_drew, size_drewN'] at hsz)))
    go_ret
    exact ⟨_, rfl, by simp only [*] <;> rfl, by (repeat (first | (with_reducible exact Below.refl _ _) | (with_reducible assumption) | (with_reducible refine below_then ?_ (by assumption)) | (with_reducible refine Below.trans ?_ (by assumption)) | (with_reducible refine below_drewN ?_ _) | (with_reducible apply Below.drew) | (with_reducible refine below_alloc ?_ _) | refine Below.setCell ?_ (by first | (simp; done) | (simp; omega)) _))⟩
theorem l01NarrowW_any (x : Nat) (w : World) (hf : fits (cn .f64 x) = true) : Calls Try.prog 23 #[.float .f64 x] w (RF w .f32 (narrow (cn .f64 x))) := by
  have HF := Lib.hid hf
  obtain ⟨c, hc⟩ : ∃ c, cn .f64 x = c := ⟨_, rfl⟩
  rw [hc] at HF ⊢
  clear hf
  go_enter Try.func23, Try.ntmps23
  go_wp2_with (first | (with_reducible refine at_list ?_; refine wpList_fop rfl rfl rfl rfl rfl ?_; intro r n hr0; have hr := hr0 _ _ (by first | with_reducible assumption | exact rfl) (by first | with_reducible assumption | exact rfl); clear hr0) | (with_reducible refine at_list ?_; refine wpList_neg rfl rfl rfl ?_; intro r hr0; have hr := hr0 _ (by first | with_reducible assumption | exact rfl); clear hr0) | (with_reducible refine at_list ?_; refine wpList_fop_g rfl rfl rfl rfl rfl ?_; intro r n hr0; have hr := hr0 _ _ (by first | with_reducible assumption | exact rfl) (by first | with_reducible assumption | exact rfl); clear hr0) | (with_reducible refine at_list ?_; refine wpList_wide_g rfl rfl Try.underlying22 Try.underlying32 rfl ?_; intro r n hr0; have hr := hr0 _ (by first | with_reducible assumption | exact rfl); clear hr0) | (with_reducible refine at_list ?_; refine wpList_wide rfl rfl rfl Try.underlying22 Try.underlying32 ?_; intro r n hr0; have hr := hr0 _ (by first | with_reducible assumption | exact rfl); clear hr0) | (with_reducible refine at_list ?_; refine wpList_narrow rfl rfl rfl Try.underlying32 Try.underlying22 hc HF.out ?_; intro r n hr))
  go_ret
  exact ⟨_, rfl, by assumption, _, rfl⟩
theorem implExp_g (x : Nat) (w : World) (h : feq .f64 (wide (cn .f32 x)) (wide (cn .f32 x)) = true) (hf : fits (exG (wide (cn .f32 x))) = true) : Calls Try.prog 19 #[.float .f32 x] w (BF w .f32 (narrow (exG (wide (cn .f32 x))))) := by
  have HR : Hid (∀ r w, cn .f64 r = wide (cn .f32 x) → Calls Try.prog 32 #[.float .f64 r] w (BF w .f64 (exG (wide (cn .f32 x))))) := fun r w e => by
    have h2 := exponential_g r w (by rw [e]; exact h)
    rw [e] at h2
    exact h2
  have HF := Lib.hid hf
  clear h hf
  generalize exG (wide (cn .f32 x)) = E at *
  go_enter Try.func19, Try.ntmps19
  go_wp2_with (first | (with_reducible refine at_list ?_; refine wpList_fop rfl rfl rfl rfl rfl ?_; intro r n hr0; have hr := hr0 _ _ (by first | with_reducible assumption | exact rfl) (by first | with_reducible assumption | exact rfl); clear hr0) | (with_reducible refine at_list ?_; refine wpList_neg rfl rfl rfl ?_; intro r hr0; have hr := hr0 _ (by first | with_reducible assumption | exact rfl); clear hr0) | (with_reducible refine at_list ?_; refine wpList_fop_g rfl rfl rfl rfl rfl ?_; intro r n hr0; have hr := hr0 _ _ (by first | with_reducible assumption | exact rfl) (by first | with_reducible assumption | exact rfl); clear hr0) | (with_reducible refine at_list ?_; refine wpList_wide_g rfl rfl Try.underlying22 Try.underlying32 rfl ?_; intro r n hr0; have hr := hr0 _ (by first | with_reducible assumption | exact rfl); clear hr0) | (with_reducible refine at_list ?_; refine wpList_wide rfl rfl rfl Try.underlying22 Try.underlying32 ?_; intro r n hr0; have hr := hr0 _ (by first | with_reducible assumption | exact rfl); clear hr0) | (with_reducible refine at_list ?_; refine wpList_narrow rfl rfl rfl Try.underlying32 Try.underlying22 (by with_reducible assumption) HF.out ?_; intro r n hr) | (go_at_call 32; refine ((HR.out _ _ (by assumption)) ).mono ?_; rintro e w' ⟨r, rfl, hr, hb⟩; obtain ⟨hT, hk⟩ := bv_next hb (by (repeat (with_reducible first | assumption | apply Trk.alloc | apply Trk.setCell | apply Trk.drewN | apply Trk.drew | exact Trk.nil _))); simp only [SameOn, World.size_alloc, World.size_setCell, World.size_drew, size_drewN', and_true] at hk; have hsz := Below.size hb; (try simp only [World.size_alloc, World.size_setCell, World.size_drew, size_drewN'] at hsz)))
  go_ret
  exact ⟨_, rfl, by assumption, by (repeat (first | (with_reducible exact Below.refl _ _) | (with_reducible assumption) | (with_reducible refine below_then ?_ (by assumption)) | (with_reducible refine Below.trans ?_ (by assumption)) | (with_reducible refine below_drewN ?_ _) | (with_reducible apply Below.drew) | (with_reducible refine below_alloc ?_ _) | refine Below.setCell ?_ (by first | (simp; done) | (simp; omega)) _))⟩
theorem l01Exp_g (x : Nat) (w : World) (h : feq .f64 (wide (cn .f32 x)) (wide (cn .f32 x)) = true) (hf : fits (exG (wide (cn .f32 x))) = true) : Calls Try.prog 11 #[.float .f32 x] w (BF w .f32 (narrow (exG (wide (cn .f32 x))))) := by
  have HR : Hid (∀ r w, cn .f64 r = wide (cn .f32 x) → Calls Try.prog 24 #[.float .f64 r] w (BF w .f64 (exG (wide (cn .f32 x))))) := fun r w e => by
    have h2 := l01ExpWide_g r w (by rw [e]; exact h)
    rw [e] at h2
    exact h2
  clear h
  generalize exG (wide (cn .f32 x)) = E at *
  have HN : Hid (∀ r w, cn .f64 r = E → Calls Try.prog 23 #[.float .f64 r] w (RF w .f32 (narrow E))) := fun r w e => by
    have h2 := l01NarrowW_any r w (by rw [e]; exact hf)
    rw [e] at h2
    exact h2
  clear hf
  go_enter Try.func11, Try.ntmps11
  go_wp2_with (first | (with_reducible refine at_list ?_; refine wpList_fop rfl rfl rfl rfl rfl ?_; intro r n hr0; have hr := hr0 _ _ (by first | with_reducible assumption | exact rfl) (by first | with_reducible assumption | exact rfl); clear hr0) | (with_reducible refine at_list ?_; refine wpList_neg rfl rfl rfl ?_; intro r hr0; have hr := hr0 _ (by first | with_reducible assumption | exact rfl); clear hr0) | (with_reducible refine at_list ?_; refine wpList_fop_g rfl rfl rfl rfl rfl ?_; intro r n hr0; have hr := hr0 _ _ (by first | with_reducible assumption | exact rfl) (by first | with_reducible assumption | exact rfl); clear hr0) | (with_reducible refine at_list ?_; refine wpList_wide_g rfl rfl Try.underlying22 Try.underlying32 rfl ?_; intro r n hr0; have hr := hr0 _ (by first | with_reducible assumption | exact rfl); clear hr0) | (with_reducible refine at_list ?_; refine wpList_wide rfl rfl rfl Try.underlying22 Try.underlying32 ?_; intro r n hr0; have hr := hr0 _ (by first | with_reducible assumption | exact rfl); clear hr0) | (go_at_call 24; refine ((HR.out _ _ (by assumption)) ).mono ?_; rintro e w' ⟨r, rfl, hr, hb⟩; obtain ⟨hT, hk⟩ := bv_next hb (by (repeat (with_reducible first | assumption | apply Trk.alloc | apply Trk.setCell | apply Trk.drewN | apply Trk.drew | exact Trk.nil _))); simp only [SameOn, World.size_alloc, World.size_setCell, World.size_drew, size_drewN', and_true] at hk; have hsz := Below.size hb; (try simp only [World.size_alloc, World.size_setCell, World.size_drew, size_drewN'] at hsz)) | (go_at_call 23; refine ((HN.out _ _ (by assumption)) ).mono ?_; rintro e w' ⟨r, rfl, hr, n, rfl⟩))
  go_ret
  exact ⟨_, rfl, by assumption, by (repeat (first | (with_reducible exact Below.refl _ _) | (with_reducible assumption) | (with_reducible refine below_then ?_ (by assumption)) | (with_reducible refine Below.trans ?_ (by assumption)) | (with_reducible refine below_drewN ?_ _) | (with_reducible apply Below.drew) | (with_reducible refine below_alloc ?_ _) | refine Below.setCell ?_ (by first | (simp; done) | (simp; omega)) _))⟩
end Go.Proofs.Ytldancjofgobnaa
