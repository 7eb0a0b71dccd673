/-
  Bytes handed in: their lengths, a number chosen by one of them; how they are opened. No condition but what each contract says.
-/
import Derived.Test.YtiodpahbmoeiaaaSrcG
import Derived.Deep.Slices
set_option linter.unusedSimpArgs false
set_option linter.unusedVariables false
set_option linter.unusedSectionVars false
namespace Go.Proofs.Ytiodpahbmoeiaaa
open Go Go.RowKit
open Go.ChangeShapes Go.WideShapes Go.ChangeAt Go.RowKit Go.Joins
section
variable {H : Type} {enc : TypeId × Value → H} {P : Program} {w : World} {base : Nat} {spare : Nat → Bool} {held : Bool}
theorem open_u8s {t e : TypeId} {fuel : Nat} {cs : List Value} {x : DataW H × List MemPlace} (ht : P.underlying t = some (.slice e)) (he : P.underlying e = some (.int .u8)) (hc : P.cellsOf e = 1)
    (h : DataW.trod enc P w base spare held fuel t cs = some x) : ∃ p n c, cs = [.slice p n c] ∧ BY w.heap.size w p n c := by
  rcases Deep.open_slice1 ht hc h with ⟨rfl, _⟩ | ⟨a, len, cap, m, n, V, D, Pl, rfl, _, hl, hm, hmm, _, hx⟩
  · exact ⟨none, 0, 0, rfl, ⟨by omega, by omega⟩, fun i hi => absurd hi (by omega)⟩
  · have hlm : len ≤ m := by rw [hmm]; split <;> omega
    refine ⟨some a, len, cap, rfl, ⟨hl, by simpa [maxLen] using hm⟩, fun i hi => ?_⟩
    have h0 : a.spot = none := by
      have := spot_none (hx 0 (by omega)).1
      simpa [Addr.add] using this
    obtain ⟨b, o, sp⟩ := a
    have h0 : sp = none := h0
    subst h0
    obtain ⟨y, e1, _, e2⟩ := DataW.trod_int he (hx i (by omega)).2
    simp only [List.cons.injEq, and_true] at e1
    have h1 := (hx i (by omega)).1
    have e3 : (⟨b, o, none⟩ : Addr).add i = ⟨b, o + i, none⟩ := by
      unfold Addr.add
      split
      · rename_i h; subst h; rfl
      · rfl
    rw [e3, e1] at h1
    have hb := World.block_lt_of_cell? _ _ h1
    have hw : 0 ≤ y ∧ y ≤ 255 := by simpa [Lit.wf, IntKind.min, IntKind.max, IntKind.signed, IntKind.bits] using e2
    exact ⟨b, o, y, rfl, hb, h1, hw⟩
end
set_option maxRecDepth 100000 in
theorem Try.cellsU8 : Try.prog.cellsOf 5 = 1 := by kernel_rfl
theorem open_By {H : Type} {enc : TypeId × Value → H} {w : World} {base : Nat} {spare : Nat → Bool} {held : Bool} {r : Reach} {b0 : Nat} {v : Value} {d : DataW H} {p : List MemPlace} (hv : Value.okWide Try.prog w r b0 45 v) (h : DataW.Trod enc Try.prog w base spare held 45 v d p) :
    ∃ p n c, v = .slice p n c ∧ BY w.heap.size w p n c := by
  obtain ⟨fuel, hf⟩ := h
  obtain ⟨q, n, c, e, h1⟩ := open_u8s Try.underlying45 Try.underlying5 Try.cellsU8 hf
  obtain ⟨a, l, cc, rfl⟩ := okWide_slice Try.underlying45 hv
  simp [Value.cells] at e
  obtain ⟨rfl, rfl, rfl⟩ := e
  exact ⟨_, _, _, rfl, h1⟩
theorem b10Long_any (p q : Option Addr) (n c m d : Nat) (w : World) : Calls Try.prog 38 #[.slice p n c, .slice q m d] w (RB w (decide (1048576 < n) || decide (1048576 < m))) := by
  by_cases h1 : 1048576 < n <;> by_cases h2 : 1048576 < m
  all_goals
    go_enter Try.func38, Try.ntmps38
    go_wp2_with (first | (with_reducible refine at_list ?_; refine wpList_fop rfl rfl rfl rfl rfl ?_; intro r n hr0; have hr := hr0 _ _ (by first | with_reducible assumption | exact rfl) (by first | with_reducible assumption | exact rfl); clear hr0) | (with_reducible refine at_list ?_; refine wpList_neg rfl rfl rfl ?_; intro r hr0; have hr := hr0 _ (by first | with_reducible assumption | exact rfl); clear hr0) | (with_reducible refine at_list ?_; refine wpList_fop_g rfl rfl rfl rfl rfl ?_; intro r n hr0; have hr := hr0 _ _ (by first | with_reducible assumption | exact rfl) (by first | with_reducible assumption | exact rfl); clear hr0) | (with_reducible refine at_list ?_; refine wpList_wide_g rfl rfl Try.underlying22 Try.underlying26 rfl ?_; intro r n hr0; have hr := hr0 _ (by first | with_reducible assumption | exact rfl); clear hr0) | (with_reducible refine at_list ?_; refine wpList_wide rfl rfl rfl Try.underlying22 Try.underlying26 ?_; intro r n hr0; have hr := hr0 _ (by first | with_reducible assumption | exact rfl); clear hr0))
    all_goals
      go_ret
      exact ⟨by first | (simp [h1, h2]; done) | (simp [h1, h2]; omega), by first | exact ⟨_, rfl⟩ | exact ⟨0, rfl⟩⟩
/-- A number below a bound. -/
def RN (w : World) (lo hi : Int) (e : Ending) (w' : World) : Prop := ∃ r, e = .returned (.int .i64 r) ∧ (lo ≤ r ∧ r ≤ hi) ∧ ∃ m, w' = w.drewN m
set_option maxHeartbeats 2000000 in
theorem b10At_any (p : Option Addr) (n c i : Nat) (k : Int) (w : World) (h : BY w.heap.size w p n c) (hi : i ≤ 1000) (hk : 1 ≤ k ∧ k ≤ 1000000) : Calls Try.prog 40 #[.slice p n c, .int .i64 i, .int .i64 k] w (RN w 0 (k - 1)) := by
  obtain ⟨⟨hc1, hc2⟩, hv⟩ := h
  have HV := Lib.hid hv
  clear hv
  obtain ⟨hk1, hk2⟩ := hk
  by_cases h1 : k ≤ 1
  · go_enter Try.func40, Try.ntmps40
    go_wp2_with (first | (with_reducible refine at_list ?_; refine wpList_fop rfl rfl rfl rfl rfl ?_; intro r n hr0; have hr := hr0 _ _ (by first | with_reducible assumption | exact rfl) (by first | with_reducible assumption | exact rfl); clear hr0) | (with_reducible refine at_list ?_; refine wpList_neg rfl rfl rfl ?_; intro r hr0; have hr := hr0 _ (by first | with_reducible assumption | exact rfl); clear hr0) | (with_reducible refine at_list ?_; refine wpList_fop_g rfl rfl rfl rfl rfl ?_; intro r n hr0; have hr := hr0 _ _ (by first | with_reducible assumption | exact rfl) (by first | with_reducible assumption | exact rfl); clear hr0) | (with_reducible refine at_list ?_; refine wpList_wide_g rfl rfl Try.underlying22 Try.underlying26 rfl ?_; intro r n hr0; have hr := hr0 _ (by first | with_reducible assumption | exact rfl); clear hr0) | (with_reducible refine at_list ?_; refine wpList_wide rfl rfl rfl Try.underlying22 Try.underlying26 ?_; intro r n hr0; have hr := hr0 _ (by first | with_reducible assumption | exact rfl); clear hr0))
    all_goals
      go_ret
      exact ⟨0, rfl, ⟨by omega, by omega⟩, by first | exact ⟨_, rfl⟩ | exact ⟨0, rfl⟩⟩
  by_cases hlt : i < n
  · obtain ⟨bb, o, x, rfl, hbb, hx, hx0, hx1⟩ := HV.out i hlt
    obtain ⟨g1, g2⟩ := rem_bd (x := x) (n := k) hx0 hk1
    go_enter Try.func40, Try.ntmps40
    go_wp2_with (first | (with_reducible refine at_list ?_; refine wpList_fop rfl rfl rfl rfl rfl ?_; intro r n hr0; have hr := hr0 _ _ (by first | with_reducible assumption | exact rfl) (by first | with_reducible assumption | exact rfl); clear hr0) | (with_reducible refine at_list ?_; refine wpList_neg rfl rfl rfl ?_; intro r hr0; have hr := hr0 _ (by first | with_reducible assumption | exact rfl); clear hr0) | (with_reducible refine at_list ?_; refine wpList_fop_g rfl rfl rfl rfl rfl ?_; intro r n hr0; have hr := hr0 _ _ (by first | with_reducible assumption | exact rfl) (by first | with_reducible assumption | exact rfl); clear hr0) | (with_reducible refine at_list ?_; refine wpList_wide_g rfl rfl Try.underlying22 Try.underlying26 rfl ?_; intro r n hr0; have hr := hr0 _ (by first | with_reducible assumption | exact rfl); clear hr0) | (with_reducible refine at_list ?_; refine wpList_wide rfl rfl rfl Try.underlying22 Try.underlying26 ?_; intro r n hr0; have hr := hr0 _ (by first | with_reducible assumption | exact rfl); clear hr0))
    all_goals
      go_ret
      exact ⟨_, rfl, ⟨by go_num, by go_num⟩, by first | exact ⟨_, rfl⟩ | exact ⟨0, rfl⟩⟩
  · obtain ⟨g1, g2⟩ := rem_bd (x := (i : Int) * 37 + 11) (n := k) (by omega) hk1
    go_enter Try.func40, Try.ntmps40
    go_wp2_with (first | (with_reducible refine at_list ?_; refine wpList_fop rfl rfl rfl rfl rfl ?_; intro r n hr0; have hr := hr0 _ _ (by first | with_reducible assumption | exact rfl) (by first | with_reducible assumption | exact rfl); clear hr0) | (with_reducible refine at_list ?_; refine wpList_neg rfl rfl rfl ?_; intro r hr0; have hr := hr0 _ (by first | with_reducible assumption | exact rfl); clear hr0) | (with_reducible refine at_list ?_; refine wpList_fop_g rfl rfl rfl rfl rfl ?_; intro r n hr0; have hr := hr0 _ _ (by first | with_reducible assumption | exact rfl) (by first | with_reducible assumption | exact rfl); clear hr0) | (with_reducible refine at_list ?_; refine wpList_wide_g rfl rfl Try.underlying22 Try.underlying26 rfl ?_; intro r n hr0; have hr := hr0 _ (by first | with_reducible assumption | exact rfl); clear hr0) | (with_reducible refine at_list ?_; refine wpList_wide rfl rfl rfl Try.underlying22 Try.underlying26 ?_; intro r n hr0; have hr := hr0 _ (by first | with_reducible assumption | exact rfl); clear hr0))
    all_goals
      go_ret
      exact ⟨_, rfl, ⟨by go_num, by go_num⟩, by first | exact ⟨_, rfl⟩ | exact ⟨0, rfl⟩⟩
end Go.Proofs.Ytiodpahbmoeiaaa
