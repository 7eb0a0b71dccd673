/-
  Complex numbers in single precision that are handed back with a bool, but for the bits of a NaN. No condition but what each contract says.
-/
import Derived.Test.YtldancjofgobnaaFin
import Derived.Laws.ComplexArith
set_option linter.unusedSimpArgs false
set_option linter.unusedVariables false
set_option linter.unusedSectionVars false
namespace Go.Proofs.Ytldancjofgobnaa
open Go Go.RowKit
open Go.ChangeShapes Go.WideShapes Go.ChangeAt Go.RowKit Go.Joins
/-- 'float64(x)', whatever bits a NaN gets. -/
theorem run_f2f {P : Program} (x : Nat) (w : World) : ∃ r n, (Conv.floatToFloat .f32 x .f64).run P w = .ok (.float .f64 r) (w.drewN n) ∧ cn .f64 r = wide (cn .f32 x) := by
  rw [wide_cn]
  by_cases h : isN .f32 x = true
  · obtain ⟨sg, tt, e⟩ := decode_nan h
    have e' : FloatKind.f32.decode x = .nan sg tt := e
    have hf : (Question.nanConv .f64 x).forced = false := rfl
    refine ⟨(Question.nanConv .f64 x).cut (w.tape w.drawn (.nanConv .f64 x)), 1, ?_, by unfold wide; rw [if_pos h, cn_of_isN (isN_nanConv _ _ _)]⟩
    simp [Conv.floatToFloat, e', hf, World.drew_is_drewN]
  · have hb : floatToFloatBits .f32 x .f64 = some (FloatKind.f64.encode (FloatKind.f32.decode x)) := by
      unfold floatToFloatBits
      rw [if_neg (by decide)]
      rcases wide_fits x with h' | h' | h'
      · exact absurd h' h
      · cases hdd : FloatKind.f32.decode x <;> simp_all [Ieee.Datum.isInfinity]
      · cases hdd : FloatKind.f32.decode x with
        | nan => rw [isN, hdd] at h; exact absurd rfl h
        | infinity => rfl
        | number => rw [hdd] at h'; simp only [h']; rfl
    exact ⟨_, 0, run_floatToFloat w hb, by unfold wide; rw [if_neg h]; exact cn_of_not (enc_not_nan _ (by simpa [isN] using h))⟩
def BCB (w : World) (c d : Nat) (b : Bool) (e : Ending) (w' : World) : Prop := ∃ x y, e = .returned (.tuple #[.complex .f32 x y, .bool b]) ∧ cn .f32 x = cn .f32 c ∧ cn .f32 y = cn .f32 d ∧ Below w.heap.size w w'
def Clm.cb (c d : Nat) (b : Bool) : Clm := ⟨1, fun _ v => ∃ x y, v = .tuple #[.complex .f32 x y, .bool b] ∧ cn .f32 x = cn .f32 c ∧ cn .f32 y = cn .f32 d, fun _ _ _ => True, fun _ => ⟨_, c, d, rfl, rfl, rfl⟩, fun _ _ _ _ _ _ => trivial, fun h => nomatch h⟩
section
variable {P : Program} {ops : Array Oper} {Q : Exit → Act → World → Prop} {W : World} {l : List Oper} {cs : List Clm} {i : Nat} {ks : List (Nat × (World → Prop))} {a : Act} {o : Oper}
theorem wpC_callCB {c d : Nat} {b : Bool} (hw : Region.wanted o (yielded ops a.tmps) = true) {f : FuncId} {args : Array Value} (h1 : ∀ w, (execOp a.eval o).run P w = .ok (.enter f args) w)
    (hc : ∀ w, Below W.heap.size W w → depK o ks w → Calls P f args w (BCB w c d b))
    (h : ∀ x y, cn .f32 x = cn .f32 c → cn .f32 y = cn .f32 d → wpC P ops Q W l cs (i + 1) ((i, fun _ => True) :: ks) (a.put o.dst (.tuple #[.complex .f32 x y, .bool b]))) : wpC P ops Q W (o :: l) (Clm.cb c d b :: cs) i ks a := by
  refine wpC_call (Clm.cb c d b) rfl hw h1 (fun w hb hk => (hc w hb hk).mono ?_) ?_
  · rintro e w' ⟨x, y, rfl, hx, hy, hbl⟩; exact ⟨_, rfl, hbl, ⟨x, y, rfl, hx, hy⟩, trivial⟩
  · rintro v ⟨x, y, rfl, hx, hy⟩; exact h x y hx hy
/-- 'complex128(x)' of a complex64. -/
theorem wpList_cwide {w : World} {rest : List Oper} (hg : o.guard = none) {src dst : TypeId} {X : Operand}
    (ho : o.op = .convert src dst X) {x y : Nat} (hx : a.eval X = .complex .f32 x y) (hs : P.underlying src = some (.complex .f32)) (hd : P.underlying dst = some (.complex .f64))
    (h : ∀ r s n, cn .f64 r = wide (cn .f32 x) → cn .f64 s = wide (cn .f32 y) → wpList P ops Q rest (a.put o.dst (.complex .f64 r s)) (w.drewN n)) : wpList P ops Q (o :: rest) a w := by
  obtain ⟨r, n, h1, h2⟩ := run_f2f (P := P) x w
  obtain ⟨s, m, h3, h4⟩ := run_f2f (P := P) y (w.drewN n)
  have hr : (convert src dst (.complex .f32 x y)).run P w = .ok (.complex .f64 r s) (w.drewN (n + m)) := by
    simp [convert, run_underlying hs, run_underlying hd, Conv.complexToComplex, h1, h3, World.drewN_drewN, Result.andThen]
  refine wpList_plain hg fun K hK => ?_
  unfold Oper.wp
  simp only [execOp, ho, hx]
  simp [hr, Result.andThen]
  exact hK _ _ (h r s (n + m) h2 h4)
end
theorem isFinC_any (x y : Nat) (w : World) : Calls Try.prog 27 #[.complex .f32 x y] w (BV w (.bool (fin .f32 (cn .f32 x) && fin .f32 (cn .f32 y)))) := by
  have A2 := Lib.hid (fun v w hs => areFin2_any x y v w hs)
  go_enter Try.func27, Try.ntmps27
  go_wp2_with (first | (with_reducible refine at_list ?_; refine wpList_fop rfl rfl rfl rfl rfl ?_; intro r n hr0; have hr := hr0 _ _ (by first | with_reducible assumption | exact rfl) (by first | with_reducible assumption | exact rfl); clear hr0) | (with_reducible refine at_list ?_; refine wpList_neg rfl rfl rfl ?_; intro r hr0; have hr := hr0 _ (by first | with_reducible assumption | exact rfl); clear hr0) | (with_reducible refine at_list ?_; refine wpList_fop_g rfl rfl rfl rfl rfl ?_; intro r n hr0; have hr := hr0 _ _ (by first | with_reducible assumption | exact rfl) (by first | with_reducible assumption | exact rfl); clear hr0) | (with_reducible refine at_list ?_; refine wpList_wide_g rfl rfl Try.underlying22 Try.underlying32 rfl ?_; intro r n hr0; have hr := hr0 _ (by first | with_reducible assumption | exact rfl); clear hr0) | (with_reducible refine at_list ?_; refine wpList_wide rfl rfl rfl Try.underlying22 Try.underlying32 ?_; intro r n hr0; have hr := hr0 _ (by first | with_reducible assumption | exact rfl); clear hr0) | (go_at_call 36; refine ((A2.out _ _ (FS2 (by go_simp <;> exact rfl) (by go_simp <;> exact rfl))) ).mono ?_; rintro e w' ⟨rfl, n, rfl⟩))
  go_ret
  exact ⟨rfl, by (repeat (first | (with_reducible exact Below.refl _ _) | (with_reducible assumption) | (with_reducible refine below_then ?_ (by assumption)) | (with_reducible refine Below.trans ?_ (by assumption)) | (with_reducible refine below_drewN ?_ _) | (with_reducible apply Below.drew) | (with_reducible refine below_alloc ?_ _) | refine Below.setCell ?_ (by first | (simp; done) | (simp; omega)) _))⟩
theorem checkedC_any (x y : Nat) (w : World) : Calls Try.prog 16 #[.complex .f32 x y] w (BCB w (if fin .f32 (cn .f32 x) && fin .f32 (cn .f32 y) then cn .f32 x else 0) (if fin .f32 (cn .f32 x) && fin .f32 (cn .f32 y) then cn .f32 y else 0) (fin .f32 (cn .f32 x) && fin .f32 (cn .f32 y))) := by
  rcases h0 : (fin .f32 (cn .f32 x) && fin .f32 (cn .f32 y))
  · have HF := Lib.hid (fun w => (h0 ▸ isFinC_any x y w : Calls Try.prog 27 #[.complex .f32 x y] w (BV w (.bool _))))
    clear h0
    go_enter Try.func16, Try.ntmps16
    go_wp2_with (first | (with_reducible refine at_list ?_; refine wpList_fop rfl rfl rfl rfl rfl ?_; intro r n hr0; have hr := hr0 _ _ (by first | with_reducible assumption | exact rfl) (by first | with_reducible assumption | exact rfl); clear hr0) | (with_reducible refine at_list ?_; refine wpList_neg rfl rfl rfl ?_; intro r hr0; have hr := hr0 _ (by first | with_reducible assumption | exact rfl); clear hr0) | (with_reducible refine at_list ?_; refine wpList_fop_g rfl rfl rfl rfl rfl ?_; intro r n hr0; have hr := hr0 _ _ (by first | with_reducible assumption | exact rfl) (by first | with_reducible assumption | exact rfl); clear hr0) | (with_reducible refine at_list ?_; refine wpList_wide_g rfl rfl Try.underlying22 Try.underlying32 rfl ?_; intro r n hr0; have hr := hr0 _ (by first | with_reducible assumption | exact rfl); clear hr0) | (with_reducible refine at_list ?_; refine wpList_wide rfl rfl rfl Try.underlying22 Try.underlying32 ?_; intro r n hr0; have hr := hr0 _ (by first | with_reducible assumption | exact rfl); clear hr0) | (go_at_call 27; refine ((HF.out _) ).mono ?_; rintro e w' ⟨rfl, hb⟩; obtain ⟨hT, hk⟩ := bv_next hb (by (repeat (with_reducible first | assumption | apply Trk.alloc | apply Trk.setCell | apply Trk.drewN | apply Trk.drew | exact Trk.nil _))); simp only [SameOn, World.size_alloc, World.size_setCell, World.size_drew, size_drewN', and_true] at hk; have hsz := Below.size hb; (try simp only [World.size_alloc, World.size_setCell, World.size_drew, size_drewN'] at hsz)))
    go_ret2
    exact ⟨_, _, rfl, rfl, rfl, by (repeat (first | (with_reducible exact Below.refl _ _) | (with_reducible assumption) | (with_reducible refine below_then ?_ (by assumption)) | (with_reducible refine Below.trans ?_ (by assumption)) | (with_reducible refine below_drewN ?_ _) | (with_reducible apply Below.drew) | (with_reducible refine below_alloc ?_ _) | refine Below.setCell ?_ (by first | (simp; done) | (simp; omega)) _))⟩
  · have HF := Lib.hid (fun w => (h0 ▸ isFinC_any x y w : Calls Try.prog 27 #[.complex .f32 x y] w (BV w (.bool _))))
    clear h0
    go_enter Try.func16, Try.ntmps16
    go_wp2_with (first | (with_reducible refine at_list ?_; refine wpList_fop rfl rfl rfl rfl rfl ?_; intro r n hr0; have hr := hr0 _ _ (by first | with_reducible assumption | exact rfl) (by first | with_reducible assumption | exact rfl); clear hr0) | (with_reducible refine at_list ?_; refine wpList_neg rfl rfl rfl ?_; intro r hr0; have hr := hr0 _ (by first | with_reducible assumption | exact rfl); clear hr0) | (with_reducible refine at_list ?_; refine wpList_fop_g rfl rfl rfl rfl rfl ?_; intro r n hr0; have hr := hr0 _ _ (by first | with_reducible assumption | exact rfl) (by first | with_reducible assumption | exact rfl); clear hr0) | (with_reducible refine at_list ?_; refine wpList_wide_g rfl rfl Try.underlying22 Try.underlying32 rfl ?_; intro r n hr0; have hr := hr0 _ (by first | with_reducible assumption | exact rfl); clear hr0) | (with_reducible refine at_list ?_; refine wpList_wide rfl rfl rfl Try.underlying22 Try.underlying32 ?_; intro r n hr0; have hr := hr0 _ (by first | with_reducible assumption | exact rfl); clear hr0) | (go_at_call 27; refine ((HF.out _) ).mono ?_; rintro e w' ⟨rfl, hb⟩; obtain ⟨hT, hk⟩ := bv_next hb (by (repeat (with_reducible first | assumption | apply Trk.alloc | apply Trk.setCell | apply Trk.drewN | apply Trk.drew | exact Trk.nil _))); simp only [SameOn, World.size_alloc, World.size_setCell, World.size_drew, size_drewN', and_true] at hk; have hsz := Below.size hb; (try simp only [World.size_alloc, World.size_setCell, World.size_drew, size_drewN'] at hsz)))
    go_ret2
    exact ⟨_, _, rfl, (cn_cn _ _).symm, (cn_cn _ _).symm, by (repeat (first | (with_reducible exact Below.refl _ _) | (with_reducible assumption) | (with_reducible refine below_then ?_ (by assumption)) | (with_reducible refine Below.trans ?_ (by assumption)) | (with_reducible refine below_drewN ?_ _) | (with_reducible apply Below.drew) | (with_reducible refine below_alloc ?_ _) | refine Below.setCell ?_ (by first | (simp; done) | (simp; omega)) _))⟩
theorem l01CFinite_any (x y : Nat) (w : World) : Calls Try.prog 13 #[.complex .f32 x y] w (RB w (fin .f32 (cn .f32 x) && fin .f32 (cn .f32 y))) := by
  rcases h0 : fin .f32 (cn .f32 x)
  all_goals
    go_enter Try.func13, Try.ntmps13
    go_wp2_with (first | (with_reducible refine at_list ?_; refine wpList_fop rfl rfl rfl rfl rfl ?_; intro r n hr0; have hr := hr0 _ _ (by first | with_reducible assumption | exact rfl) (by first | with_reducible assumption | exact rfl); clear hr0) | (with_reducible refine at_list ?_; refine wpList_neg rfl rfl rfl ?_; intro r hr0; have hr := hr0 _ (by first | with_reducible assumption | exact rfl); clear hr0) | (with_reducible refine at_list ?_; refine wpList_fop_g rfl rfl rfl rfl rfl ?_; intro r n hr0; have hr := hr0 _ _ (by first | with_reducible assumption | exact rfl) (by first | with_reducible assumption | exact rfl); clear hr0) | (with_reducible refine at_list ?_; refine wpList_wide_g rfl rfl Try.underlying22 Try.underlying32 rfl ?_; intro r n hr0; have hr := hr0 _ (by first | with_reducible assumption | exact rfl); clear hr0) | (with_reducible refine at_list ?_; refine wpList_wide rfl rfl rfl Try.underlying22 Try.underlying32 ?_; intro r n hr0; have hr := hr0 _ (by first | with_reducible assumption | exact rfl); clear hr0) | (go_at_call 12; refine (l01Finite_any _ _).mono ?_; rintro e w' ⟨rfl, n, rfl⟩))
    all_goals
      go_ret
      exact ⟨by simp, (by first | exact ⟨_, rfl⟩ | exact ⟨0, rfl⟩ | exact ⟨_, World.drewN_drewN ..⟩ | exact ⟨_, by simp only [World.drewN_drewN]; rfl⟩)⟩
theorem sameComplex_cn (a b c d : Nat) (h1 : cn .f64 c = cn .f64 a) (h2 : cn .f64 d = cn .f64 b) (w : World) : Calls Try.prog 6 #[.complex .f64 a b, .complex .f64 c d] w (RB w true) := by
  have H1 := Lib.hid (fun w => sameFloat_cn a c h1 w)
  have H2 := Lib.hid (fun w => sameFloat_cn b d h2 w)
  clear h1 h2
  go_enter Try.func6, Try.ntmps6
  go_wp2_with (first | (with_reducible refine at_list ?_; refine wpList_fop rfl rfl rfl rfl rfl ?_; intro r n hr0; have hr := hr0 _ _ (by first | with_reducible assumption | exact rfl) (by first | with_reducible assumption | exact rfl); clear hr0) | (with_reducible refine at_list ?_; refine wpList_neg rfl rfl rfl ?_; intro r hr0; have hr := hr0 _ (by first | with_reducible assumption | exact rfl); clear hr0) | (with_reducible refine at_list ?_; refine wpList_fop_g rfl rfl rfl rfl rfl ?_; intro r n hr0; have hr := hr0 _ _ (by first | with_reducible assumption | exact rfl) (by first | with_reducible assumption | exact rfl); clear hr0) | (with_reducible refine at_list ?_; refine wpList_wide_g rfl rfl Try.underlying22 Try.underlying32 rfl ?_; intro r n hr0; have hr := hr0 _ (by first | with_reducible assumption | exact rfl); clear hr0) | (with_reducible refine at_list ?_; refine wpList_wide rfl rfl rfl Try.underlying22 Try.underlying32 ?_; intro r n hr0; have hr := hr0 _ (by first | with_reducible assumption | exact rfl); clear hr0) | (go_at_call_of 20 (Value.float .f64 a); refine ((H1.out _) ).mono ?_; rintro e w' ⟨rfl, n, rfl⟩) | (go_at_call_of 20 (Value.float .f64 b); refine ((H2.out _) ).mono ?_; rintro e w' ⟨rfl, n, rfl⟩))
  go_ret
  exact ⟨rfl, (by first | exact ⟨_, rfl⟩ | exact ⟨0, rfl⟩ | exact ⟨_, World.drewN_drewN ..⟩ | exact ⟨_, by simp only [World.drewN_drewN]; rfl⟩)⟩
end Go.Proofs.Ytldancjofgobnaa
