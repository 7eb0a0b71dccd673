/-
  Which bars are the same (the program's and the reference's), each proved once; the law. No condition but what each contract says.
  Lists of numbers that the laws compare. No condition but what each contract says.
  How far two numbers lie apart, in 64 bits, for the laws of the other family. No condition but what each contract says.
  Bytes handed in: their lengths, a number chosen by one of them; how they are opened. No condition but what each contract says.
  What the law on bars calls, with drawn bars. No condition but what each contract says.
-/
import Derived.Test.YtjeeflldbhajiaaBM10
import Derived.Test.YtjeeflldbhajiaaBM6
import Derived.Test.YtjeeflldbhajiaaBM2
import Derived.Test.YtjeeflldbhajiaaBM7
import Derived.Test.YtjeeflldbhajiaaBM3
import Derived.Deep.Slices
import Derived.Test.YtjeeflldbhajiaaBM9
set_option linter.unusedSimpArgs false
set_option linter.unusedVariables false
set_option linter.unusedSectionVars false
namespace Go.Proofs.Ytjeeflldbhajiaa
open Go Go.RowKit
open Go.ChangeShapes Go.WideShapes Go.ChangeAt Go.RowKit Go.Joins
def barSm (s t : St) (p q : Nat) (xs ys : List Nat) : Bool := s.sm t && (same p q && eqL same xs ys)
set_option maxHeartbeats 2000000 in
theorem implSameBar_any (s t : St) (p q : Nat) (v u : Value) (xs ys : List Nat) (w : World) (h1 : FS w v xs) (h2 : FS w u ys) (hx : s.lt ∧ p < 4294967296 ∧ ∀ j, xs.getD j 0 < 4294967296) (hy : t.lt ∧ q < 4294967296 ∧ ∀ j, ys.getD j 0 < 4294967296) : Calls Try.prog 18 #[.agg #[.float .f32 s.a, .float .f32 s.b, .float .f32 s.c, .float .f32 s.d, .float .f32 s.p, .float .f32 s.l, .float .f32 p, v], .agg #[.float .f32 t.a, .float .f32 t.b, .float .f32 t.c, .float .f32 t.d, .float .f32 t.p, .float .f32 t.l, .float .f32 q, u]] w (BV w (.bool (barSm s t p q xs ys))) := by
  have HS := Lib.hid h1
  have HT := Lib.hid h2
  have HX := Lib.hid hx
  have HY := Lib.hid hy
  obtain ⟨pv, cv, rfl, _⟩ := h1
  obtain ⟨pu, cu, rfl, _⟩ := h2
  have e1 := hx.2.1
  have e2 := hy.2.1
  clear hx hy
  have HC := Lib.hid (fun w' => implSameStuff_any s t HX.out.1 HY.out.1 w')
  rcases g1 : s.sm t
  all_goals rcases g2 : same p q
  all_goals
    rw [g1] at HC
    go_enter Try.func18, Try.ntmps18
    go_wp2_with (first | (with_reducible refine at_list ?_; refine wpList_fop rfl rfl rfl rfl rfl ?_; intro r n hr0; have hr := hr0 _ _ (by first | with_reducible assumption | exact rfl) (by first | with_reducible assumption | exact rfl); clear hr0) | (with_reducible refine at_list ?_; refine wpList_neg rfl rfl rfl ?_; intro r hr0; have hr := hr0 _ (by first | with_reducible assumption | exact rfl); clear hr0) | (with_reducible refine at_list ?_; refine wpList_fop_g rfl rfl rfl rfl rfl ?_; intro r n hr0; have hr := hr0 _ _ (by first | with_reducible assumption | exact rfl) (by first | with_reducible assumption | exact rfl); clear hr0) | (with_reducible refine at_list ?_; refine wpList_wide_g rfl rfl Try.underlying22 Try.underlying40 rfl ?_; intro r n hr0; have hr := hr0 _ (by first | with_reducible assumption | exact rfl); clear hr0) | (with_reducible refine at_list ?_; refine wpList_wide rfl rfl rfl Try.underlying22 Try.underlying40 ?_; intro r n hr0; have hr := hr0 _ (by first | with_reducible assumption | exact rfl); clear hr0) | (go_at_call 58; refine ((HC.out _) ).mono ?_; rintro e w' ⟨rfl, hb⟩; obtain ⟨hT, hk⟩ := bv_next hb (by (repeat (with_reducible first | assumption | apply Trk.alloc | apply Trk.setCell | apply Trk.drewN | apply Trk.drew | exact Trk.nil _))); simp only [SameOn, World.size_alloc, World.size_setCell, World.size_drew, size_drewN', and_true] at hk; have hsz := Below.size hb; (try simp only [World.size_alloc, World.size_setCell, World.size_drew, size_drewN'] at hsz)) | (go_at_call 59; refine (SameNumber_any _ _ (by assumption) (by assumption) _).mono ?_; rintro e w' ⟨rfl, n, rfl⟩) | (go_at_call 60; refine ((sameNumbers_any xs ys _ _ _ (HS.out.later (by (repeat (first | (with_reducible exact Below.refl _ _) | (with_reducible assumption) | (with_reducible refine below_then ?_ (by assumption)) | (with_reducible refine Below.trans ?_ (by assumption)) | (with_reducible refine below_drewN ?_ _) | (with_reducible apply Below.drew) | (with_reducible refine below_alloc ?_ _) | refine Below.setCell ?_ (by first | (simp; done) | (simp; omega)) _)))) (HT.out.later (by (repeat (first | (with_reducible exact Below.refl _ _) | (with_reducible assumption) | (with_reducible refine below_then ?_ (by assumption)) | (with_reducible refine Below.trans ?_ (by assumption)) | (with_reducible refine below_drewN ?_ _) | (with_reducible apply Below.drew) | (with_reducible refine below_alloc ?_ _) | refine Below.setCell ?_ (by first | (simp; done) | (simp; omega)) _)))) HX.out.2.2 HY.out.2.2) ).mono ?_; rintro e w' ⟨rfl, n, rfl⟩))
    all_goals
      go_ret
      exact ⟨by simp [barSm, *], by (repeat (first | (with_reducible exact Below.refl _ _) | (with_reducible assumption) | (with_reducible refine below_then ?_ (by assumption)) | (with_reducible refine Below.trans ?_ (by assumption)) | (with_reducible refine below_drewN ?_ _) | (with_reducible apply Below.drew) | (with_reducible refine below_alloc ?_ _) | refine Below.setCell ?_ (by first | (simp; done) | (simp; omega)) _))⟩
end Go.Proofs.Ytjeeflldbhajiaa
set_option linter.unusedSimpArgs false
set_option linter.unusedVariables false
set_option linter.unusedSectionVars false
namespace Go.Proofs.Ytjeeflldbhajiaa
open Go Go.RowKit
theorem specSame_any (x y : Nat) (hx : x < 4294967296) (hy : y < 4294967296) (w : World) : Calls Try.prog 49 #[.float .f32 x, .float .f32 y] w (RB w (same x y)) := by
  have H := Lib.hid (fun w => l01Same_any x y hx hy w)
  go_enter Try.func49, Try.ntmps49
  go_wp2_with (first | (with_reducible refine at_list ?_; refine wpList_fop rfl rfl rfl rfl rfl ?_; intro r n hr0; have hr := hr0 _ _ (by first | with_reducible assumption | exact rfl) (by first | with_reducible assumption | exact rfl); clear hr0) | (with_reducible refine at_list ?_; refine wpList_neg rfl rfl rfl ?_; intro r hr0; have hr := hr0 _ (by first | with_reducible assumption | exact rfl); clear hr0) | (with_reducible refine at_list ?_; refine wpList_fop_g rfl rfl rfl rfl rfl ?_; intro r n hr0; have hr := hr0 _ _ (by first | with_reducible assumption | exact rfl) (by first | with_reducible assumption | exact rfl); clear hr0) | (with_reducible refine at_list ?_; refine wpList_wide_g rfl rfl Try.underlying22 Try.underlying40 rfl ?_; intro r n hr0; have hr := hr0 _ (by first | with_reducible assumption | exact rfl); clear hr0) | (with_reducible refine at_list ?_; refine wpList_wide rfl rfl rfl Try.underlying22 Try.underlying40 ?_; intro r n hr0; have hr := hr0 _ (by first | with_reducible assumption | exact rfl); clear hr0) | (go_at_call 96; refine ((H.out _) ).mono ?_; rintro e w' ⟨rfl, n, rfl⟩))
  go_ret
  exact ⟨rfl, (by first | exact ⟨_, rfl⟩ | exact ⟨0, rfl⟩ | exact ⟨_, World.drewN_drewN ..⟩ | exact ⟨_, by simp only [World.drewN_drewN]; rfl⟩)⟩
end Go.Proofs.Ytjeeflldbhajiaa
set_option linter.unusedSimpArgs false
set_option linter.unusedVariables false
set_option linter.unusedSectionVars false
namespace Go.Proofs.Ytjeeflldbhajiaa
open Go Go.RowKit
open Go.ChangeShapes Go.WideShapes Go.ChangeAt Go.RowKit Go.Joins
theorem b10GapC_any (x y : Nat) (w : World) : Calls Try.prog 48 #[.float .f64 x, .float .f64 y] w (RF w .f64 (gapC (cn .f64 x) (cn .f64 y))) := by
  rcases h : flt .f64 (cn .f64 x) (cn .f64 y)
  · have Hv : Hid (gapC (cn .f64 x) (cn .f64 y) = fop .sub .f64 (cn .f64 x) (cn .f64 y)) := by show _ = _; unfold gapC; rw [if_neg (by rw [h]; simp)]
    go_enter Try.func48, Try.ntmps48
    go_wp2_with (first | (with_reducible refine at_list ?_; refine wpList_fop rfl rfl rfl rfl rfl ?_; intro r n hr0; have hr := hr0 _ _ (by first | with_reducible assumption | exact rfl) (by first | with_reducible assumption | exact rfl); clear hr0) | (with_reducible refine at_list ?_; refine wpList_neg rfl rfl rfl ?_; intro r hr0; have hr := hr0 _ (by first | with_reducible assumption | exact rfl); clear hr0) | (with_reducible refine at_list ?_; refine wpList_fop_g rfl rfl rfl rfl rfl ?_; intro r n hr0; have hr := hr0 _ _ (by first | with_reducible assumption | exact rfl) (by first | with_reducible assumption | exact rfl); clear hr0) | (with_reducible refine at_list ?_; refine wpList_wide_g rfl rfl Try.underlying22 Try.underlying40 rfl ?_; intro r n hr0; have hr := hr0 _ (by first | with_reducible assumption | exact rfl); clear hr0) | (with_reducible refine at_list ?_; refine wpList_wide rfl rfl rfl Try.underlying22 Try.underlying40 ?_; intro r n hr0; have hr := hr0 _ (by first | with_reducible assumption | exact rfl); clear hr0))
    all_goals
      go_ret
      exact ⟨_, rfl, by first | (rw [Hv.out]; done) | (rw [Hv.out]; simp only [*]), by first | exact ⟨_, rfl⟩ | exact ⟨0, rfl⟩⟩
  · have Hv : Hid (gapC (cn .f64 x) (cn .f64 y) = fop .sub .f64 (cn .f64 y) (cn .f64 x)) := by show _ = _; unfold gapC; rw [if_pos h]
    go_enter Try.func48, Try.ntmps48
    go_wp2_with (first | (with_reducible refine at_list ?_; refine wpList_fop rfl rfl rfl rfl rfl ?_; intro r n hr0; have hr := hr0 _ _ (by first | with_reducible assumption | exact rfl) (by first | with_reducible assumption | exact rfl); clear hr0) | (with_reducible refine at_list ?_; refine wpList_neg rfl rfl rfl ?_; intro r hr0; have hr := hr0 _ (by first | with_reducible assumption | exact rfl); clear hr0) | (with_reducible refine at_list ?_; refine wpList_fop_g rfl rfl rfl rfl rfl ?_; intro r n hr0; have hr := hr0 _ _ (by first | with_reducible assumption | exact rfl) (by first | with_reducible assumption | exact rfl); clear hr0) | (with_reducible refine at_list ?_; refine wpList_wide_g rfl rfl Try.underlying22 Try.underlying40 rfl ?_; intro r n hr0; have hr := hr0 _ (by first | with_reducible assumption | exact rfl); clear hr0) | (with_reducible refine at_list ?_; refine wpList_wide rfl rfl rfl Try.underlying22 Try.underlying40 ?_; intro r n hr0; have hr := hr0 _ (by first | with_reducible assumption | exact rfl); clear hr0))
    all_goals
      go_ret
      exact ⟨_, rfl, by first | (rw [Hv.out]; done) | (rw [Hv.out]; simp only [*]), by first | exact ⟨_, rfl⟩ | exact ⟨0, rfl⟩⟩
end Go.Proofs.Ytjeeflldbhajiaa
set_option linter.unusedSimpArgs false
set_option linter.unusedVariables false
set_option linter.unusedSectionVars false
namespace Go.Proofs.Ytjeeflldbhajiaa
open Go Go.RowKit
open Go.ChangeShapes Go.WideShapes Go.ChangeAt Go.RowKit Go.Joins
section
variable {H : Type} {enc : TypeId × Value → H} {P : Program} {w : World} {base : Nat} {spare : Nat → Bool} {held : Bool}
theorem open_u8s {t e : TypeId} {fuel : Nat} {cs : List Value} {x : DataW H × List MemPlace} (ht : P.underlying t = some (.slice e)) (he : P.underlying e = some (.int .u8)) (hc : P.cellsOf e = 1)
    (h : DataW.trod enc P w base spare held fuel t cs = some x) : ∃ p n c, cs = [.slice p n c] ∧ BY w.heap.size w p n c := by
  rcases Deep.open_slice1 ht hc h with ⟨rfl, _⟩ | ⟨a, len, cap, m, n, V, D, Pl, rfl, _, hl, hm, hmm, _, hx⟩
  · exact ⟨none, 0, 0, rfl, ⟨by omega, by omega⟩, fun i hi => absurd hi (by omega)⟩
  · have hlm : len ≤ m := by rw [hmm]; split <;> omega
    refine ⟨some a, len, cap, rfl, ⟨hl, by simpa [maxLen] using hm⟩, fun i hi => ?_⟩
    have h0 : a.spot = none := by
      have := spot_none (hx 0 (by omega)).1
      simpa [Addr.add] using this
    obtain ⟨b, o, sp⟩ := a
    have h0 : sp = none := h0
    subst h0
    obtain ⟨y, e1, _, e2⟩ := DataW.trod_int he (hx i (by omega)).2
    simp only [List.cons.injEq, and_true] at e1
    have h1 := (hx i (by omega)).1
    have e3 : (⟨b, o, none⟩ : Addr).add i = ⟨b, o + i, none⟩ := by
      unfold Addr.add
      split
      · rename_i h; subst h; rfl
      · rfl
    rw [e3, e1] at h1
    have hb := World.block_lt_of_cell? _ _ h1
    have hw : 0 ≤ y ∧ y ≤ 255 := by simpa [Lit.wf, IntKind.min, IntKind.max, IntKind.signed, IntKind.bits] using e2
    exact ⟨b, o, y, rfl, hb, h1, hw⟩
end
set_option maxRecDepth 100000 in
theorem Try.cellsU8 : Try.prog.cellsOf 5 = 1 := by kernel_rfl
set_option maxRecDepth 100000 in
theorem open_By {H : Type} {enc : TypeId × Value → H} {w : World} {base : Nat} {spare : Nat → Bool} {held : Bool} {r : Reach} {b0 : Nat} {v : Value} {d : DataW H} {p : List MemPlace} (hv : Value.okWide Try.prog w r b0 55 v) (h : DataW.Trod enc Try.prog w base spare held 55 v d p) :
    ∃ p n c, v = .slice p n c ∧ BY w.heap.size w p n c := by
  obtain ⟨fuel, hf⟩ := h
  obtain ⟨q, n, c, e, h1⟩ := open_u8s Try.underlying55 Try.underlying5 Try.cellsU8 hf
  obtain ⟨a, l, cc, rfl⟩ := okWide_slice Try.underlying55 hv
  simp [Value.cells] at e
  obtain ⟨rfl, rfl, rfl⟩ := e
  exact ⟨_, _, _, rfl, h1⟩
theorem b10Long_any (p q : Option Addr) (n c m d : Nat) (w : World) : Calls Try.prog 45 #[.slice p n c, .slice q m d] w (RB w (decide (1048576 < n) || decide (1048576 < m))) := by
  by_cases h1 : 1048576 < n <;> by_cases h2 : 1048576 < m
  all_goals
    go_enter Try.func45, Try.ntmps45
    go_wp2_with (first | (with_reducible refine at_list ?_; refine wpList_fop rfl rfl rfl rfl rfl ?_; intro r n hr0; have hr := hr0 _ _ (by first | with_reducible assumption | exact rfl) (by first | with_reducible assumption | exact rfl); clear hr0) | (with_reducible refine at_list ?_; refine wpList_neg rfl rfl rfl ?_; intro r hr0; have hr := hr0 _ (by first | with_reducible assumption | exact rfl); clear hr0) | (with_reducible refine at_list ?_; refine wpList_fop_g rfl rfl rfl rfl rfl ?_; intro r n hr0; have hr := hr0 _ _ (by first | with_reducible assumption | exact rfl) (by first | with_reducible assumption | exact rfl); clear hr0) | (with_reducible refine at_list ?_; refine wpList_wide_g rfl rfl Try.underlying22 Try.underlying40 rfl ?_; intro r n hr0; have hr := hr0 _ (by first | with_reducible assumption | exact rfl); clear hr0) | (with_reducible refine at_list ?_; refine wpList_wide rfl rfl rfl Try.underlying22 Try.underlying40 ?_; intro r n hr0; have hr := hr0 _ (by first | with_reducible assumption | exact rfl); clear hr0))
    all_goals
      go_ret
      exact ⟨by first | (simp [h1, h2]; done) | (simp [h1, h2]; omega), by first | exact ⟨_, rfl⟩ | exact ⟨0, rfl⟩⟩
/-- A number below a bound. -/
def RN (w : World) (lo hi : Int) (e : Ending) (w' : World) : Prop := ∃ r, e = .returned (.int .i64 r) ∧ (lo ≤ r ∧ r ≤ hi) ∧ ∃ m, w' = w.drewN m
set_option maxHeartbeats 2000000 in
theorem b10At_any (p : Option Addr) (n c i : Nat) (k : Int) (w : World) (h : BY w.heap.size w p n c) (hi : i ≤ 1000) (hk : 1 ≤ k ∧ k ≤ 1000000) : Calls Try.prog 47 #[.slice p n c, .int .i64 i, .int .i64 k] w (RN w 0 (k - 1)) := by
  obtain ⟨⟨hc1, hc2⟩, hv⟩ := h
  have HV := Lib.hid hv
  clear hv
  obtain ⟨hk1, hk2⟩ := hk
  by_cases h1 : k ≤ 1
  · go_enter Try.func47, Try.ntmps47
    go_wp2_with (first | (with_reducible refine at_list ?_; refine wpList_fop rfl rfl rfl rfl rfl ?_; intro r n hr0; have hr := hr0 _ _ (by first | with_reducible assumption | exact rfl) (by first | with_reducible assumption | exact rfl); clear hr0) | (with_reducible refine at_list ?_; refine wpList_neg rfl rfl rfl ?_; intro r hr0; have hr := hr0 _ (by first | with_reducible assumption | exact rfl); clear hr0) | (with_reducible refine at_list ?_; refine wpList_fop_g rfl rfl rfl rfl rfl ?_; intro r n hr0; have hr := hr0 _ _ (by first | with_reducible assumption | exact rfl) (by first | with_reducible assumption | exact rfl); clear hr0) | (with_reducible refine at_list ?_; refine wpList_wide_g rfl rfl Try.underlying22 Try.underlying40 rfl ?_; intro r n hr0; have hr := hr0 _ (by first | with_reducible assumption | exact rfl); clear hr0) | (with_reducible refine at_list ?_; refine wpList_wide rfl rfl rfl Try.underlying22 Try.underlying40 ?_; intro r n hr0; have hr := hr0 _ (by first | with_reducible assumption | exact rfl); clear hr0))
    all_goals
      go_ret
      exact ⟨0, rfl, ⟨by omega, by omega⟩, by first | exact ⟨_, rfl⟩ | exact ⟨0, rfl⟩⟩
  by_cases hlt : i < n
  · obtain ⟨bb, o, x, rfl, hbb, hx, hx0, hx1⟩ := HV.out i hlt
    obtain ⟨g1, g2⟩ := rem_bd (x := x) (n := k) hx0 hk1
    go_enter Try.func47, Try.ntmps47
    go_wp2_with (first | (with_reducible refine at_list ?_; refine wpList_fop rfl rfl rfl rfl rfl ?_; intro r n hr0; have hr := hr0 _ _ (by first | with_reducible assumption | exact rfl) (by first | with_reducible assumption | exact rfl); clear hr0) | (with_reducible refine at_list ?_; refine wpList_neg rfl rfl rfl ?_; intro r hr0; have hr := hr0 _ (by first | with_reducible assumption | exact rfl); clear hr0) | (with_reducible refine at_list ?_; refine wpList_fop_g rfl rfl rfl rfl rfl ?_; intro r n hr0; have hr := hr0 _ _ (by first | with_reducible assumption | exact rfl) (by first | with_reducible assumption | exact rfl); clear hr0) | (with_reducible refine at_list ?_; refine wpList_wide_g rfl rfl Try.underlying22 Try.underlying40 rfl ?_; intro r n hr0; have hr := hr0 _ (by first | with_reducible assumption | exact rfl); clear hr0) | (with_reducible refine at_list ?_; refine wpList_wide rfl rfl rfl Try.underlying22 Try.underlying40 ?_; intro r n hr0; have hr := hr0 _ (by first | with_reducible assumption | exact rfl); clear hr0))
    all_goals
      go_ret
      exact ⟨_, rfl, ⟨by go_num, by go_num⟩, by first | exact ⟨_, rfl⟩ | exact ⟨0, rfl⟩⟩
  · obtain ⟨g1, g2⟩ := rem_bd (x := (i : Int) * 37 + 11) (n := k) (by omega) hk1
    go_enter Try.func47, Try.ntmps47
    go_wp2_with (first | (with_reducible refine at_list ?_; refine wpList_fop rfl rfl rfl rfl rfl ?_; intro r n hr0; have hr := hr0 _ _ (by first | with_reducible assumption | exact rfl) (by first | with_reducible assumption | exact rfl); clear hr0) | (with_reducible refine at_list ?_; refine wpList_neg rfl rfl rfl ?_; intro r hr0; have hr := hr0 _ (by first | with_reducible assumption | exact rfl); clear hr0) | (with_reducible refine at_list ?_; refine wpList_fop_g rfl rfl rfl rfl rfl ?_; intro r n hr0; have hr := hr0 _ _ (by first | with_reducible assumption | exact rfl) (by first | with_reducible assumption | exact rfl); clear hr0) | (with_reducible refine at_list ?_; refine wpList_wide_g rfl rfl Try.underlying22 Try.underlying40 rfl ?_; intro r n hr0; have hr := hr0 _ (by first | with_reducible assumption | exact rfl); clear hr0) | (with_reducible refine at_list ?_; refine wpList_wide rfl rfl rfl Try.underlying22 Try.underlying40 ?_; intro r n hr0; have hr := hr0 _ (by first | with_reducible assumption | exact rfl); clear hr0))
    all_goals
      go_ret
      exact ⟨_, rfl, ⟨by go_num, by go_num⟩, by first | exact ⟨_, rfl⟩ | exact ⟨0, rfl⟩⟩
end Go.Proofs.Ytjeeflldbhajiaa
set_option linter.unusedSimpArgs false
set_option linter.unusedVariables false
set_option linter.unusedSectionVars false
namespace Go.Proofs.Ytjeeflldbhajiaa
open Go Go.RowKit
open Go.ChangeShapes Go.WideShapes Go.ChangeAt Go.RowKit Go.Joins
theorem word_eq {k : FloatKind} {x c : Nat} (h : cn k x = c) (hf : fnt k c = true) : x = c := by
  cases hn : isN k x with
  | true =>
    rw [cn_of_isN hn] at h
    subst h
    have : fnt k (qn k) = false := by cases k <;> decide +kernel
    rw [this] at hf; cases hf
  | false => rwa [cn_of_not hn] at h
theorem gBy {ok : Bool} {c : Nat} (h : ok = true) (hf : fnt .f32 c = true) : gF ok c = c ∧ gB ok c = true := by
  have e : fin .f32 c = true := by rw [fin_num]; exact hf
  subst h
  unfold gF gB
  rw [if_pos rfl, chk_yes e, e]
  exact ⟨rfl, rfl⟩
theorem map_raw {ys L : List Nat} (h : ys.map (cn .f32) = L) (hf : ∀ j, j < L.length → fnt .f32 (L.getD j 0) = true) : ys = L := by
  have hl : ys.length = L.length := by rw [← h, List.length_map]
  apply List.ext_getElem hl
  intro j h1 h2
  have e : L[j] = cn .f32 ys[j] := by subst h; simp
  have f := hf j h2
  rw [List.getD_eq_getElem?_getD, List.getElem?_eq_getElem h2] at f
  exact word_eq e.symm f
theorem turn_put {b : Nat} {a c : World} (h : Turn b (b + 1) a c) (o : Nat) (v : Value) : Turn b (b + 1) a (c.setCell ⟨b, o, none⟩ v) :=
  ⟨h.os, h.tape, h.output, by rw [World.size_setCell]; exact h.size, fun k hk hr => (Below.heap_setCell _ _ _ _ (by show k ≠ b; omega)).trans (h.block k hk hr)⟩
theorem OF.keptc {B b : Nat} {w : World} {u : Value} {xs : List Nat} (h : OF B w u xs) (hne : u.ownBlock = none ∨ u.ownBlock ≠ some b) (o : Nat) (v : Value) : OF B (w.setCell ⟨b, o, none⟩ v) u xs :=
  h.kept (row := some b) ⟨rfl, rfl, rfl, by simp, fun k _ hk => Below.heap_setCell _ _ _ _ (fun e => hk (by rw [e]))⟩ hne
/-- A bar stored in its variable. -/
def putBar (c : World) (b : Nat) (s : St) (q : Nat) (v : Value) : World := (((((((c.setCell ⟨b, 0, none⟩ (.float .f32 s.a)).setCell ⟨b, 1, none⟩ (.float .f32 s.b)).setCell ⟨b, 2, none⟩ (.float .f32 s.c)).setCell ⟨b, 3, none⟩ (.float .f32 s.d)).setCell ⟨b, 4, none⟩ (.float .f32 s.p)).setCell ⟨b, 5, none⟩ (.float .f32 s.l)).setCell ⟨b, 6, none⟩ (.float .f32 q)).setCell ⟨b, 7, none⟩ v
theorem putBar_all {B b : Nat} {a c : World} {s : St} {q : Nat} {v0 v u : Value} {xs : List Nat} (hT : Turn b (b + 1) a c) (hC : owned c b (barC s q v0)) (h : OF B c u xs) (hne : u.ownBlock = none ∨ u.ownBlock ≠ some b) :
    Turn b (b + 1) a (putBar c b s q v) ∧ owned (putBar c b s q v) b (barC s q v) ∧ OF B (putBar c b s q v) u xs :=
  ⟨turn_put (turn_put (turn_put (turn_put (turn_put (turn_put (turn_put (turn_put hT 0 _) 1 _) 2 _) 3 _) 4 _) 5 _) 6 _) 7 _, barC_stored hC,
   ((((((((h.keptc hne 0 _).keptc hne 1 _).keptc hne 2 _).keptc hne 3 _).keptc hne 4 _).keptc hne 5 _).keptc hne 6 _).keptc hne 7 _)⟩
theorem putBar_drew {B b : Nat} {a c : World} {s : St} {q : Nat} {v0 v u : Value} {xs : List Nat} (m : Nat) (hT : Turn b (b + 1) a c) (hC : owned c b (barC s q v0)) (h : OF B c u xs) (hne : u.ownBlock = none ∨ u.ownBlock ≠ some b) :
    Turn b (b + 1) a ((putBar c b s q v).drewN m) ∧ owned ((putBar c b s q v).drewN m) b (barC s q v) ∧ OF B ((putBar c b s q v).drewN m) u xs := by
  obtain ⟨h1, h2, h3⟩ := putBar_all (v := v) hT hC h hne
  have hd : Below (putBar c b s q v).heap.size (putBar c b s q v) ((putBar c b s q v).drewN m) := below_drewN (Below.refl _ _) m
  exact ⟨h1.draws m, h2.later hd, h3.later hd⟩
theorem OF.apart {B b : Nat} {w : World} {u : Value} {xs : List Nat} (h : OF B w u xs) (hb : b < B) : u.ownBlock = none ∨ u.ownBlock ≠ some b := by
  cases hv : u.ownBlock with
  | none => exact .inl rfl
  | some k => refine .inr fun e => ?_; have := (h.block k hv).1; cases e; omega
theorem of_view {B : Nat} {w : World} {q : Option Addr} {n c : Nat} {xs : List Nat} (h : OF B w (.slice q n c) xs) (hl : xs.length = n) (hn : 0 < n) : ∃ b o, q = some ⟨b, o, none⟩ ∧ ∀ j, j < n → w.cell? ⟨b, o + j, none⟩ = some (.float .f32 (xs.getD j 0)) := by
  obtain ⟨p', c', e', _, _, hv⟩ := FS_view h.fs
  simp only [Value.slice.injEq] at e'
  obtain ⟨b, o, e1, _⟩ := hv 0 (by omega)
  refine ⟨b, o, e'.1.trans e1, fun j hj => ?_⟩
  obtain ⟨b2, o2, e2, h2⟩ := hv j (by omega)
  rw [e1] at e2
  simp only [Option.some.injEq, Addr.mk.injEq, and_true] at e2
  obtain ⟨rfl, rfl⟩ := e2
  exact h2
theorem brx_lt {s : St} {q l r : Nat} {b1 b2 : Bool} {t : Nat} {xs : List Nat} (h : ∀ j, xs.getD j 0 < 4294967296) : ∀ k j, (brX s q l r b1 b2 t xs k).getD j 0 < 4294967296
  | 0, j => h j
  | k + 1, j => by
    show (stbX s q (brX s q l r b1 b2 t xs k) l r b1 b2 t).getD j 0 < _
    unfold stbX stbL
    rw [List.getD_eq_getElem?_getD, List.getElem?_map]
    cases e : (List.range (brX s q l r b1 b2 t xs k).length)[j]? with
    | none => simp
    | some i => exact fop_lt _ _ _
/-- A run's bar and numbers. -/
def RBX (w : World) (s : St) (q : Nat) (X L : List Nat) (m n : Nat) (e : Ending) (w' : World) : Prop := ∃ q1 c1 q2 c2, e = .returned (.tuple #[.agg #[.float .f32 s.a, .float .f32 s.b, .float .f32 s.c, .float .f32 s.d, .float .f32 s.p, .float .f32 s.l, .float .f32 q, .slice q1 m c1], .slice q2 n c2, .bool true]) ∧ Below w.heap.size w w' ∧ OF w.heap.size w' (.slice q1 m c1) X ∧ (OF w.heap.size w' (.slice q2 n c2) L ∨ L = [])
theorem ba_most {s : St} {q : Nat} {xs : List Nat} (h1 : barOk s q xs = true) (h2 : fnt .f32 (mostV s q) = true) (v : Value) (w : World) (hs : FS w v xs) : Calls Try.prog 23 #[.agg #[.float .f32 s.a, .float .f32 s.b, .float .f32 s.c, .float .f32 s.d, .float .f32 s.p, .float .f32 s.l, .float .f32 q, v]] w (BFB w .f32 (mostV s q) true) := by
  have h := implMostTick_any s q v xs w hs
  obtain ⟨e1, e2⟩ := gBy h1 h2
  rwa [e1, e2] at h
theorem ba_heat {s : St} {q : Nat} {xs : List Nat} (h1 : barOk s q xs = true) (h2 : fnt .f32 (heatB q xs) = true) (v : Value) (w : World) (hs : FS w v xs) : Calls Try.prog 26 #[.agg #[.float .f32 s.a, .float .f32 s.b, .float .f32 s.c, .float .f32 s.d, .float .f32 s.p, .float .f32 s.l, .float .f32 q, v]] w (BFB w .f32 (heatB q xs) true) := by
  have h := implHeatInBar_any s q v xs w hs
  obtain ⟨e1, e2⟩ := gBy h1 h2
  rwa [e1, e2] at h
theorem ba_melt {s : St} {q : Nat} {xs : List Nat} (h1 : barOk s q xs = true) (h2 : fnt .f32 (meltB s q xs) = true) (v : Value) (w : World) (hs : FS w v xs) : Calls Try.prog 28 #[.agg #[.float .f32 s.a, .float .f32 s.b, .float .f32 s.c, .float .f32 s.d, .float .f32 s.p, .float .f32 s.l, .float .f32 q, v]] w (BFB w .f32 (meltB s q xs) true) := by
  have h := implMelted_any s q v xs w hs
  obtain ⟨e1, e2⟩ := gBy h1 h2
  rwa [e1, e2] at h
theorem ba_valid {s : St} {q : Nat} {xs : List Nat} (h1 : barOk s q xs = true) (v : Value) (w : World) (hs : FS w v xs) : Calls Try.prog 21 #[.agg #[.float .f32 s.a, .float .f32 s.b, .float .f32 s.c, .float .f32 s.d, .float .f32 s.p, .float .f32 s.l, .float .f32 q, v]] w (BV w (.bool true)) := by
  have h := implValidBar_any s q v xs w hs
  rwa [h1] at h
/-- A bar of the call's own, valid. -/
def BBY (w : World) (s : St) (q : Nat) (X : List Nat) (m : Nat) (e : Ending) (w' : World) : Prop := ∃ q1 c1, e = .returned (.tuple #[.agg #[.float .f32 s.a, .float .f32 s.b, .float .f32 s.c, .float .f32 s.d, .float .f32 s.p, .float .f32 s.l, .float .f32 q, .slice q1 m c1], .bool true]) ∧ Below w.heap.size w w' ∧ OF w.heap.size w' (.slice q1 m c1) X
theorem bby_of {w w' : World} {s : St} {q : Nat} {X : List Nat} {e : Ending} {b0 : Bool} {m : Nat} (h : BBE w s q X b0 e w') (hb : b0 = true) (hm : X.length = m) : BBY w s q X m e w' := by
  obtain ⟨b, u, xs, ⟨rfl, rfl⟩, rfl, h1, h2⟩ := h
  subst hb
  subst hm
  obtain ⟨q1, c1, rfl⟩ := OF.shape h2
  exact ⟨q1, c1, rfl, h1, h2⟩
theorem ba_step {s : St} {q : Nat} {xs X : List Nat} {l g : Nat} {b1 b2 : Bool} {t : Nat} (h1 : stbOk s q xs l g b1 b2 t = true) (hX : stbX s q xs l g b1 b2 t = X) {m : Nat} (hm : X.length = m) (v : Value) (w : World) (hs : FS w v xs) : Calls Try.prog 42 #[.agg #[.float .f32 s.a, .float .f32 s.b, .float .f32 s.c, .float .f32 s.d, .float .f32 s.p, .float .f32 s.l, .float .f32 q, v], .float .f32 l, .float .f32 g, .bool b1, .bool b2, .float .f32 t] w (BBY w s q X m) := by
  have h := implStb_any s q v xs l g b1 b2 t w hs
  rw [hX] at h
  exact h.mono fun e w' hh => bby_of hh h1 hm
theorem ba_even {s : St} {q : Nat} {n : Int} {t f : Nat} {X : List Nat} (h1 : evenOk s n q t f = true) (hX : evenX s n t f = X) {m : Nat} (hm : X.length = m) (w : World) : Calls Try.prog 39 #[.agg #[.float .f32 s.a, .float .f32 s.b, .float .f32 s.c, .float .f32 s.d, .float .f32 s.p, .float .f32 s.l], .int .i64 n, .float .f32 q, .float .f32 t, .float .f32 f] w (BBY w s q X m) := by
  have h := implEven_any s n q t f w
  rw [hX] at h
  exact h.mono fun e w' hh => bby_of hh h1 hm
theorem ba_no {s : St} {q : Nat} {xs : List Nat} {l g : Nat} {b1 b2 : Bool} {t : Nat} (h1 : stbOk s q xs l g b1 b2 t = false) (v : Value) (w : World) (hs : FS w v xs) : Calls Try.prog 42 #[.agg #[.float .f32 s.a, .float .f32 s.b, .float .f32 s.c, .float .f32 s.d, .float .f32 s.p, .float .f32 s.l, .float .f32 q, v], .float .f32 l, .float .f32 g, .bool b1, .bool b2, .float .f32 t] w (fun e w' => ∃ q1 n1 c1, e = .returned (.tuple #[.agg #[.float .f32 0, .float .f32 0, .float .f32 0, .float .f32 0, .float .f32 0, .float .f32 0, .float .f32 0, .slice q1 n1 c1], .bool false]) ∧ Below w.heap.size w w') := by
  refine (implStb_any s q v xs l g b1 b2 t w hs).mono ?_
  rintro e w' hh
  obtain ⟨u, rfl, hb, hO⟩ := bbe_no hh h1
  obtain ⟨q1, c1, rfl⟩ := OF.shape hO
  exact ⟨q1, _, c1, rfl, hb⟩
theorem ba_flows {s : St} {q : Nat} {xs L : List Nat} (h1 : flowsOk s q xs = true) (hL : flowsL s q xs (xs.length - 1) = L) {m : Nat} (hm : L.length = m) (hf : ∀ j, j < L.length → fnt .f32 (L.getD j 0) = true) (v : Value) (w : World) (hs : FS w v xs) : Calls Try.prog 36 #[.agg #[.float .f32 s.a, .float .f32 s.b, .float .f32 s.c, .float .f32 s.d, .float .f32 s.p, .float .f32 s.l, .float .f32 q, v]] w (fun e w' => ∃ q1 c1, e = .returned (.tuple #[.slice q1 m c1, .bool true]) ∧ Below w.heap.size w w' ∧ OF w.heap.size w' (.slice q1 m c1) L) := by
  have h := implFlows_any s q v xs w hs
  rw [flowsV_ok h1, h1, hL] at h
  refine h.mono ?_
  rintro e w' ⟨u, ys, rfl, hb, hO, hmm⟩
  have := map_raw hmm hf
  subst this
  subst hm
  obtain ⟨q1, c1, rfl⟩ := OF.shape hO
  exact ⟨q1, c1, rfl, hb, hO⟩
theorem ba_run {s : St} {q : Nat} {xs X L : List Nat} {l g : Nat} {b1 b2 : Bool} {t n : Nat} (h1 : brB s q l g b1 b2 t xs n = true) (hX : brX s q l g b1 b2 t xs n = X) (hL : brL s q l g b1 b2 t xs n = L) {m : Nat} (hm : X.length = m) (hn : L.length = n) (hf : ∀ j, j < L.length → fnt .f32 (L.getD j 0) = true) (v : Value) (w : World) (hs : FS w v xs) : Calls Try.prog 44 #[.agg #[.float .f32 s.a, .float .f32 s.b, .float .f32 s.c, .float .f32 s.d, .float .f32 s.p, .float .f32 s.l, .float .f32 q, v], .float .f32 l, .float .f32 g, .bool b1, .bool b2, .float .f32 t, .int .i64 n] w (RBX w s q X L m n) := by
  have h := implBrun_any s q v xs l g b1 b2 t (n : Int) w hs
  rw [h1] at h
  have e1 : bX true (brX s q l g b1 b2 t xs ((n : Int)).toNat) = X := hX
  have e2 : bX true (brL s q l g b1 b2 t xs ((n : Int)).toNat) = L := hL
  rw [e1, e2] at h
  refine h.mono ?_
  rintro e w' ⟨q0, c0, q1, c1, ys, rfl, hb, hO, hy, hmm⟩
  have := map_raw hmm hf
  subst this
  rw [hm] at hO ⊢
  rw [hn] at hy ⊢
  exact ⟨q0, c0, q1, c1, rfl, hb, hO, hy.imp (fun h => h.1) (fun h => h.1)⟩
theorem ba_same {s : St} {q : Nat} {xs : List Nat} (hl : DL s) (hq : q < 4294967296) (hx : ∀ j, xs.getD j 0 < 4294967296) (v u : Value) (w : World) (h1 : FS w v xs) (h2 : FS w u xs) : Calls Try.prog 18 #[.agg #[.float .f32 s.a, .float .f32 s.b, .float .f32 s.c, .float .f32 s.d, .float .f32 s.p, .float .f32 s.l, .float .f32 q, v], .agg #[.float .f32 s.a, .float .f32 s.b, .float .f32 s.c, .float .f32 s.d, .float .f32 s.p, .float .f32 s.l, .float .f32 q, u]] w (BV w (.bool true)) := by
  have h := implSameBar_any s s q q v u xs xs w h1 h2 ⟨hl, hq, hx⟩ ⟨hl, hq, hx⟩
  have e : barSm s s q q xs xs = true := by simp [barSm, St.sm, same, eqL]
  rwa [e] at h
theorem ba_gap {X Y : Nat} (x y : Nat) (w : World) (hx : cn .f64 x = X) (hy : cn .f64 y = Y) : Calls Try.prog 48 #[.float .f64 x, .float .f64 y] w (RF w .f64 (gapC X Y)) := hx ▸ hy ▸ b10GapC_any x y w
theorem ba_sn {x : Nat} (hx : x < 4294967296) (w : World) : Calls Try.prog 49 #[.float .f32 x, .float .f32 x] w (RB w true) := by
  have h := specSame_any x x hx hx w
  have e : same x x = true := beq_self_eq_true _
  rwa [e] at h
end Go.Proofs.Ytjeeflldbhajiaa
