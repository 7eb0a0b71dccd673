/-
  A list of numbers appended whole to an own slice; slices.Clone, and the reference's copy. No condition but what each contract says.
-/
import Derived.Test.YtjeeflldbhajiaaFlows2
set_option linter.unusedSimpArgs false
set_option linter.unusedVariables false
set_option linter.unusedSectionVars false
namespace Go.Proofs.Ytjeeflldbhajiaa
open Go Go.RowKit
open Go.ChangeShapes Go.WideShapes Go.ChangeAt Go.RowKit Go.Joins
theorem OF.one {B n r : Nat} (w : World) (t : TypeId) (hn : n = w.heap.size) (hB : B ≤ w.heap.size) (ht : t = 22) : OF B (w.alloc (.cells #[.float .f32 r] t)) (.slice (some ⟨n, 0, none⟩) 1 1) [r] := by
  subst ht
  subst hn
  exact World.ownsRow_lit w #[.float .f32 r] 1 hB (by decide) (by simp)
theorem wpList_appL {B : Nat} {xs zs : List Nat} {v : Value} {b o0 c0 : Nat} {w : World} {ops : Array Oper} {rest : List Oper} {o : Oper} {a : Act} {Q : Exit → Act → World → Prop} (hg : o.guard = .none) {s x : Operand}
    (ho : o.op = .call { callee := .builtin .append, args := #[s, x], argTypes := #[25, 25] }) (hs : a.eval s = v) (hx : a.eval x = .slice (some ⟨b, o0, .none⟩) zs.length c0) (hO : OF B w v xs) (hc : ∀ i, i < zs.length → w.cell? ⟨b, o0 + i, .none⟩ = some (.float .f32 (zs.getD i 0))) (hn : xs.length + zs.length ≤ 1048576) (hB : B ≤ w.heap.size)
    (h : ∀ q c w', OF B w' (.slice q (xs.length + zs.length) c) (xs ++ zs) → Below B w w' → wpList Try.prog ops Q rest (a.put o.dst (.slice q (xs.length + zs.length) c)) w') : wpList Try.prog ops Q (o :: rest) a w := by
  obtain ⟨i0, hi, hz0, hz1, hz2⟩ := info_parts Try.infoF32
  refine wpList_append_own w hg s x 25 ho B 22 i0 (.float .f32 0) 1 4 Try.underlying25 hi hz0 hz1 hz2 rfl (by decide) v xs.length (xs.map (Value.float .f32)) hs hO ⟨b, o0, .none⟩ zs.length c0 (zs.map (Value.float .f32)) hx (by simp) ?_ ?_ (by unfold maxLen; omega) (by omega) hB ?_
  · intro j u hj
    rw [List.getElem?_map] at hj
    have hl : j < zs.length := by
      rcases Nat.lt_or_ge j zs.length with h | h
      · exact h
      · rw [List.getElem?_eq_none h] at hj; cases hj
    rw [List.getElem?_eq_getElem hl] at hj
    simp only [Option.map_some, Option.some.injEq] at hj
    subst hj
    have := hc j hl
    rw [List.getD_eq_getElem?_getD, List.getElem?_eq_getElem hl] at this
    rw [show Addr.add ⟨b, o0, none⟩ j = ⟨b, o0 + j, none⟩ by unfold Addr.add; split; (rename_i h; subst h; rfl); rfl]
    exact this
  · intro u hu
    rw [List.mem_map] at hu
    obtain ⟨x, _, rfl⟩ := hu
    rfl
  · intro v' w' hown hgrow _
    have hO' : OF B w' v' (xs ++ zs) := by
      unfold OF
      simpa using hown
    obtain ⟨q, c, rfl⟩ := hO'.shape
    have e : (xs ++ zs).length = xs.length + zs.length := by simp
    rw [e] at hO' ⊢
    exact h q c w' hO' ((Below.refl _ _).grown hgrow hB fun k hk => (OF.block hO k hk).1)
set_option maxHeartbeats 2000000 in
set_option maxRecDepth 100000 in
theorem cloneF_any (xs : List Nat) (v : Value) (w : World) (hs : FS w v xs) (hn : 1 ≤ xs.length ∧ xs.length ≤ 1048576) : Calls Try.prog 93 #[v] w (fun e w' => ∃ u, e = .returned u ∧ Below w.heap.size w w' ∧ OF w.heap.size w' u xs) := by
  obtain ⟨b0, o0, c0, rfl, ⟨hc1, hc2⟩, HV⟩ := hs.ptr hn.1
  clear hs
  have hnil : (binOp .eql 25 (.slice (some ⟨b0, o0, none⟩) xs.length c0) (.slice none 0 0)).run Try.prog w = .ok (.bool false) w := by kernel_rfl
  go_enter Try.func93, Try.ntmps93
  go_wp2_with (first | (with_reducible refine at_list ?_; refine wpList_fop rfl rfl rfl rfl rfl ?_; intro r n hr0; have hr := hr0 _ _ (by first | with_reducible assumption | exact rfl) (by first | with_reducible assumption | exact rfl); clear hr0) | (with_reducible refine at_list ?_; refine wpList_neg rfl rfl rfl ?_; intro r hr0; have hr := hr0 _ (by first | with_reducible assumption | exact rfl); clear hr0) | (with_reducible refine at_list ?_; refine wpList_fop_g rfl rfl rfl rfl rfl ?_; intro r n hr0; have hr := hr0 _ _ (by first | with_reducible assumption | exact rfl) (by first | with_reducible assumption | exact rfl); clear hr0) | (with_reducible refine at_list ?_; refine wpList_wide_g rfl rfl Try.underlying22 Try.underlying40 rfl ?_; intro r n hr0; have hr := hr0 _ (by first | with_reducible assumption | exact rfl); clear hr0) | (with_reducible refine at_list ?_; refine wpList_wide rfl rfl rfl Try.underlying22 Try.underlying40 ?_; intro r n hr0; have hr := hr0 _ (by first | with_reducible assumption | exact rfl); clear hr0) | (at_builtin; refine stop_here ?_))
  unfold Stop
  apply wpList_appL (B := w.heap.size) (xs := []) (zs := xs) (v := .slice (some ⟨w.heap.size, 0, none⟩) 0 0)
  case hg => rfl
  case ho => rfl
  case hs => rfl
  case hx => rfl
  case hO => exact OF.empty _ _ rfl (Nat.le_refl _) rfl
  case hc => intro i hi; exact cell_later ((Below.refl _ w).alloc (Nat.le_refl _) _) (HV.out i hi)
  case hn => simp; omega
  case hB => simp
  intro q2 c2 w2 hO2 hB2
  have HB3 := Lib.hid (Below.trans (B := w.heap.size) (a := w) (by (repeat (first | (with_reducible exact Below.refl _ _) | (with_reducible assumption) | (with_reducible refine below_then ?_ (by assumption)) | (with_reducible refine Below.trans ?_ (by assumption)) | (with_reducible refine below_drewN ?_ _) | (with_reducible apply Below.drew) | (with_reducible refine below_alloc ?_ _) | refine Below.setCell ?_ (by first | (simp; done) | (simp; omega)) _))) (hB2.mono (by omega)))
  have HO2 := Lib.hid hO2
  clear hB2 hO2 HV
  go_wp2
  go_ret
  refine ⟨_, rfl, HB3.out, ?_⟩
  have := HO2.out
  simpa using this
end Go.Proofs.Ytjeeflldbhajiaa
