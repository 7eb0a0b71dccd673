/-
  A list of numbers appended whole to an own slice; slices.Clone, and the reference's copy. No condition but what each contract says.
-/
import Derived.Test.YthdmamcbceblpaaPtr
set_option linter.unusedSimpArgs false
set_option linter.unusedVariables false
set_option linter.unusedSectionVars false
namespace Go.Proofs.Ythdmamcbceblpaa
open Go Go.RowKit
open Go.ChangeShapes Go.WideShapes Go.ChangeAt Go.RowKit Go.Joins
theorem OF.one {B n r : Nat} (w : World) (t : TypeId) (hn : n = w.heap.size) (hB : B ≤ w.heap.size) (ht : t = 33) : OF B (w.alloc (.cells #[.float .f32 r] t)) (.slice (some ⟨n, 0, none⟩) 1 1) [r] := by
  subst ht
  subst hn
  exact World.ownsRow_lit w #[.float .f32 r] 1 hB (by decide) (by simp)
theorem wpList_appL {B : Nat} {xs zs : List Nat} {v : Value} {b o0 c0 : Nat} {w : World} {ops : Array Oper} {rest : List Oper} {o : Oper} {a : Act} {Q : Exit → Act → World → Prop} (hg : o.guard = .none) {s x : Operand}
    (ho : o.op = .call { callee := .builtin .append, args := #[s, x], argTypes := #[22, 22] }) (hs : a.eval s = v) (hx : a.eval x = .slice (some ⟨b, o0, .none⟩) zs.length c0) (hO : OF B w v xs) (hc : ∀ i, i < zs.length → w.cell? ⟨b, o0 + i, .none⟩ = some (.float .f32 (zs.getD i 0))) (hn : xs.length + zs.length ≤ 1048576) (hB : B ≤ w.heap.size)
    (h : ∀ q c w', OF B w' (.slice q (xs.length + zs.length) c) (xs ++ zs) → Below B w w' → wpList Try.prog ops Q rest (a.put o.dst (.slice q (xs.length + zs.length) c)) w') : wpList Try.prog ops Q (o :: rest) a w := by
  obtain ⟨i0, hi, hz0, hz1, hz2⟩ := info_parts Try.infoF32
  refine wpList_append_own w hg s x 22 ho B 33 i0 (.float .f32 0) 1 4 Try.underlying22 hi hz0 hz1 hz2 rfl (by decide) v xs.length (xs.map (Value.float .f32)) hs hO ⟨b, o0, .none⟩ zs.length c0 (zs.map (Value.float .f32)) hx (by simp) ?_ ?_ (by unfold maxLen; omega) (by omega) hB ?_
  · intro j u hj
    rw [List.getElem?_map] at hj
    have hl : j < zs.length := by
      rcases Nat.lt_or_ge j zs.length with h | h
      · exact h
      · rw [List.getElem?_eq_none h] at hj; cases hj
    rw [List.getElem?_eq_getElem hl] at hj
    simp only [Option.map_some, Option.some.injEq] at hj
    subst hj
    have := hc j hl
    rw [List.getD_eq_getElem?_getD, List.getElem?_eq_getElem hl] at this
    rw [show Addr.add ⟨b, o0, none⟩ j = ⟨b, o0 + j, none⟩ by unfold Addr.add; split; (rename_i h; subst h; rfl); rfl]
    exact this
  · intro u hu
    rw [List.mem_map] at hu
    obtain ⟨x, _, rfl⟩ := hu
    rfl
  · intro v' w' hown hgrow _
    have hO' : OF B w' v' (xs ++ zs) := by
      unfold OF
      simpa using hown
    obtain ⟨q, c, rfl⟩ := hO'.shape
    have e : (xs ++ zs).length = xs.length + zs.length := by simp
    rw [e] at hO' ⊢
    exact h q c w' hO' ((Below.refl _ _).grown hgrow hB fun k hk => (OF.block hO k hk).1)
end Go.Proofs.Ythdmamcbceblpaa
