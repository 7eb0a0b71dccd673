/-
  Draws in a statement whose order Go leaves open; a source made of bytes; bytes handed in. No condition but what each contract says.
-/
import Derived.Test.YtiodpahbmoeiaaaSrc2
import Derived.Test.YtiodpahbmoeiaaaPlanG
set_option linter.unusedSimpArgs false
set_option linter.unusedVariables false
set_option linter.unusedSectionVars false
namespace Go.Proofs.Ytiodpahbmoeiaaa
open Go Go.RowKit
open Go.ChangeShapes Go.WideShapes Go.ChangeAt Go.RowKit Go.Joins
theorem i64_fit {n : Int} (h : -9223372036854775808 ≤ n ∧ n ≤ 9223372036854775807) : IntKind.i64.wrap n = n := by
  simp [IntKind.wrap, IntKind.bits, IntKind.signed]
  omega
def Clm.pick (hi : Int) : Clm := ⟨3, fun _ v => ∃ r, v = .int .i64 r ∧ (0 ≤ hi → 0 ≤ r ∧ r ≤ hi), fun _ _ _ => True, fun _ => ⟨_, 0, rfl, fun h => ⟨by omega, h⟩⟩, fun _ _ _ _ _ _ => trivial, fun h => nomatch h⟩
/-- Only the source has turned. -/
def srcI (W : World) (b K : Nat) (u : World) : Prop := Turn b (b + 1) W u ∧ SrcAt u b K
theorem SrcAt.lt {w : World} {b K : Nat} (h : SrcAt w b K) : b < w.heap.size := by
  obtain ⟨p, n, c, k, s, ⟨h1, _⟩, _⟩ := h
  exact World.block_lt_of_cell? _ _ h1
theorem srcI_kept {W : World} {b K : Nat} (w w' : World) (h : srcI W b K w) (hb : Below w.heap.size w w') : srcI W b K w' := ⟨h.1.trans (Turn.below hb), h.2.later hb h.2.lt⟩
/-- .. and then one cell was written, with a value of a class. -/
def putI (I : World → Prop) (a : Addr) (S : Value → Prop) (u : World) : Prop := ∃ v u0, S v ∧ I u0 ∧ Below (u0.setCell a v).heap.size (u0.setCell a v) u
theorem putI_kept {I : World → Prop} {a : Addr} {S : Value → Prop} (w w' : World) (h : putI I a S w) (hb : Below w.heap.size w w') : putI I a S w' := by
  obtain ⟨v, u0, h0, h1, h2⟩ := h
  exact ⟨v, u0, h0, h1, below_then h2 hb⟩
section
variable {ops : Array Oper} {Q : Exit → Act → World → Prop} {F : World → Prop}
variable {l : List Oper} {cs : List GC} {i : Nat} {ks : List (Nat × (World → Prop))} {a : Act} {o : Oper}
theorem wpG_pick {W : World} {b K : Nat} {n : Int} (hn : 1 ≤ n ∧ n ≤ 1000000000) (hK : K ≤ 900000) (hw : Region.wanted o (yielded ops a.tmps) = true) (he : ∀ w, (execOp a.eval o).run Try.prog w = .ok (.enter 89 #[.pointer (some ⟨b, 0, none⟩), .int .i64 n]) w)
    (h : ∀ r, 0 ≤ r → r ≤ n - 1 → wpG Try.prog ops Q F (srcI W b (K + 2)) l cs (i + 1) [(i, fun _ => True)] (a.put o.dst (.int .i64 r))) : wpG Try.prog ops Q F (srcI W b K) (o :: l) (⟨Clm.pick (n - 1), srcI W b (K + 2), srcI_kept⟩ :: cs) i ks a := by
  refine wpG_turnC (Clm.pick (n - 1)) rfl _ _ hw he (fun w hi hk => ?_) ?_
  · refine (pick_any b K n w hi.2 hK hn).mono ?_
    rintro e w' ⟨r, rfl, ⟨h1, h2⟩, hg, hz, hs⟩
    exact ⟨_, rfl, ⟨hi.1.trans hg, hs⟩, ⟨r, rfl, fun _ => ⟨h1, h2⟩⟩, trivial⟩
  · rintro v ⟨r, rfl, h2⟩
    have := h2 (by omega)
    exact h r this.1 this.2
theorem wpG_set {I : World → Prop} (ad : Addr) (S : Value → Prop) (v : Value) (hI : ∀ w w', I w → Below w.heap.size w w' → I w') (hw : Region.wanted o (yielded ops a.tmps) = true) (hS : S v) (h1 : ∀ w, I w → (execOp a.eval o).run Try.prog w = .ok .skip (w.setCell ad v))
    (h : wpG Try.prog ops Q F (putI I ad S) l cs (i + 1) [(i, fun _ => True)] (a.put o.dst undef)) : wpG Try.prog ops Q F I (o :: l) (GC.turn undef (putI I ad S) (fun _ => True) putI_kept (fun _ _ _ _ => trivial) :: cs) i ks a := by
  simp only [wpG]
  refine ⟨.inl ⟨hw, .inr (.inr (.inl rfl)), fun h => absurd (show (3 : Nat) = 0 from h) (by decide), fun h => absurd (show (3 : Nat) = 4 from h) (by decide), fun h => absurd (show (3 : Nat) = 1 from h) (by decide), fun _ w hi hk => ?_⟩, fun u hu => ?_⟩
  · rw [h1 w hi]; exact ⟨⟨v, w, hS, hi, Below.refl _ _⟩, rfl, trivial⟩
  · have hu : u = undef := hu
    subst hu; exact h
end
theorem l00From_any (p : Option Addr) (n c : Nat) (w : World) (h : BY w.heap.size w p n c) (hn : n ≤ 1048576) : Calls Try.prog 76 #[.slice p n c] w (fun e w' => e = .returned (.pointer (some ⟨w.heap.size, 0, none⟩)) ∧ Below w.heap.size w w' ∧ SrcAt w' w.heap.size 0) := by
  have H := Lib.hid h
  clear h
  go_enter Try.func76, Try.ntmps76
  go_wp2_with (first | (with_reducible refine at_list ?_; refine wpList_fop rfl rfl rfl rfl rfl ?_; intro r n hr0; have hr := hr0 _ _ (by first | with_reducible assumption | exact rfl) (by first | with_reducible assumption | exact rfl); clear hr0) | (with_reducible refine at_list ?_; refine wpList_neg rfl rfl rfl ?_; intro r hr0; have hr := hr0 _ (by first | with_reducible assumption | exact rfl); clear hr0) | (with_reducible refine at_list ?_; refine wpList_fop_g rfl rfl rfl rfl rfl ?_; intro r n hr0; have hr := hr0 _ _ (by first | with_reducible assumption | exact rfl) (by first | with_reducible assumption | exact rfl); clear hr0) | (with_reducible refine at_list ?_; refine wpList_wide_g rfl rfl Try.underlying22 Try.underlying26 rfl ?_; intro r n hr0; have hr := hr0 _ (by first | with_reducible assumption | exact rfl); clear hr0) | (with_reducible refine at_list ?_; refine wpList_wide rfl rfl rfl Try.underlying22 Try.underlying26 ?_; intro r n hr0; have hr := hr0 _ (by first | with_reducible assumption | exact rfl); clear hr0))
  all_goals
    go_ret
    refine ⟨rfl, by (repeat (first | (with_reducible exact Below.refl _ _) | (with_reducible assumption) | (with_reducible refine below_then ?_ (by assumption)) | (with_reducible refine Below.trans ?_ (by assumption)) | (with_reducible refine below_drewN ?_ _) | (with_reducible apply Below.drew) | (with_reducible refine below_alloc ?_ _) | refine Below.setCell ?_ (by first | (simp; done) | (simp; omega)) _)), p, n, c, 0, 0, ⟨by go_simp, by go_simp, by go_simp⟩, ⟨by go_simp, by go_simp⟩, H.out.later (C := w.heap.size) (by (repeat (first | (with_reducible exact Below.refl _ _) | (with_reducible assumption) | (with_reducible refine below_then ?_ (by assumption)) | (with_reducible refine Below.trans ?_ (by assumption)) | (with_reducible refine below_drewN ?_ _) | (with_reducible apply Below.drew) | (with_reducible refine below_alloc ?_ _) | refine Below.setCell ?_ (by first | (simp; done) | (simp; omega)) _))) (Nat.le_refl _), hn, ⟨by omega, by omega⟩, by omega, by omega⟩
end Go.Proofs.Ytiodpahbmoeiaaa
