/-
  Slices that are appended to, one number at a time; which lists are finite (the reference's). No condition but what each law says.
-/
import Derived.Test.YtldancjofgobnaaSl
set_option linter.unusedSimpArgs false
set_option linter.unusedVariables false
set_option linter.unusedSectionVars false
namespace Go.Proofs.Ytldancjofgobnaa
open Go Go.RowKit
theorem wp_named {P : Program} {c : Code} {Q : Exit → Act → World → Prop} {a : Act} {w : World} (h : ∀ W, W = w → c.wp P Q a W) : c.wp P Q a w := h _ rfl
/-- The walk stands still here. -/
def Stop (p : Prop) : Prop := p
theorem stop_here {p : Prop} (h : Stop p) : p := h
theorem OF.nil0 (B : Nat) (w : World) : OF B w (.slice .none 0 0) [] := World.ownsRow_nil _ _ _ _
theorem OF.empty {B n : Nat} (w : World) (t : TypeId) (hn : n = w.heap.size) (hB : B ≤ w.heap.size) (ht : t = 22) : OF B (w.alloc (.cells #[] t)) (.slice (some ⟨n, 0, .none⟩) 0 0) [] := by
  subst ht
  subst hn
  exact World.ownsRow_lit w #[] 0 hB (by simp) (by simp)
theorem wpList_app {B : Nat} {xs : List Nat} {v : Value} {b r : Nat} {w : World} {ops : Array Oper} {rest : List Oper} {o : Oper} {a : Act} {Q : Exit → Act → World → Prop} (hg : o.guard = .none) {s x : Operand}
    (ho : o.op = .call { callee := .builtin .append, args := #[s, x], argTypes := #[41, 41] }) (hs : a.eval s = v) (hx : a.eval x = .slice (some ⟨b, 0, .none⟩) 1 1) (hO : OF B w v xs) (hc : w.cell? ⟨b, 0, .none⟩ = some (.float .f32 r)) (hn : xs.length < 1048576) (hB : B ≤ w.heap.size)
    (h : ∀ q c w', OF B w' (.slice q (xs.length + 1) c) (xs ++ [r]) → Below B w w' → wpList Try.prog ops Q rest (a.put o.dst (.slice q (xs.length + 1) c)) w') : wpList Try.prog ops Q (o :: rest) a w := by
  obtain ⟨i0, hi, hz0, hz1, hz2⟩ := info_parts Try.infoF32
  refine wpList_append_own w hg s x 41 ho B 22 i0 (.float .f32 0) 1 4 Try.underlying41 hi hz0 hz1 hz2 rfl (by decide) v xs.length (xs.map (Value.float .f32)) hs hO ⟨b, 0, .none⟩ 1 1 [.float .f32 r] hx rfl ?_ ?_ (by unfold maxLen; omega) (by omega) hB ?_
  · intro j u hj
    match j, hj with
    | 0, hj => simp at hj; subst hj; simpa [Addr.add] using hc
    | j + 1, hj => simp at hj
  · intro u hu; simp at hu; subst hu; rfl
  · intro v' w' hown hgrow _
    have hO' : OF B w' v' (xs ++ [r]) := by
      unfold OF
      simpa using hown
    obtain ⟨q, c, rfl⟩ := hO'.shape
    simp only [List.length_append, List.length_cons, List.length_nil, Nat.zero_add] at hO' ⊢
    exact h q c w' hO' ((Below.refl _ _).grown hgrow hB fun k hk => (OF.block hO k hk).1)
/-- A slice of numbers (of these classes) that the call has made, and a bool. -/
def BC (w : World) (L : List Nat) (b : Bool) (e : Ending) (w' : World) : Prop := ∃ u ys, e = .returned (.tuple #[u, .bool b]) ∧ Below w.heap.size w w' ∧ OF w.heap.size w' u ys ∧ ys.map (cn .f32) = L
theorem below_lower {B B' : Nat} {a b : World} (h : Below B a b) (hB : B' ≤ B) : Below B' a b := h.mono hB
theorem at_later {s : St} {w w' : World} {b o B : Nat} (h : s.at w b o) (hb : Below B w w') (hB : b < B) : s.at w' b o := by
  obtain ⟨h0, h1, h2, h3, h4, h5⟩ := h
  exact ⟨(hb.cell hB).trans h0, (hb.cell hB).trans h1, (hb.cell hB).trans h2, (hb.cell hB).trans h3, (hb.cell hB).trans h4, (hb.cell hB).trans h5⟩
end Go.Proofs.Ytldancjofgobnaa
