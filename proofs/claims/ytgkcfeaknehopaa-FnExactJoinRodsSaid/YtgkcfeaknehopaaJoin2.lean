/-
  A rod's lists made longer, one behind the other, in a variable of the call's own. No condition but what each contract says.
-/
import Derived.Test.YtgkcfeaknehopaaJoin
import Derived.Test.YtgkcfeaknehopaaOwn
set_option linter.unusedSimpArgs false
set_option linter.unusedVariables false
set_option linter.unusedSectionVars false
namespace Go.Proofs.Ytgkcfeaknehopaa
open Go Go.RowKit
open Go.ChangeShapes Go.WideShapes Go.ChangeAt Go.RowKit Go.Joins
theorem wpList_appX {B : Nat} {xs zs : List Nat} {v : Value} {b o0 c0 : Nat} {w : World} {ops : Array Oper} {rest : List Oper} {o : Oper} {a : Act} {Q : Exit → Act → World → Prop} (hg : o.guard = .none) {s x : Operand}
    (ho : o.op = .call { callee := .builtin .append, args := #[s, x], argTypes := #[22, 22] }) (hs : a.eval s = v) (hx : a.eval x = .slice (some ⟨b, o0, .none⟩) zs.length c0) (hO : OF B w v xs) (hc : ∀ i, i < zs.length → w.cell? ⟨b, o0 + i, .none⟩ = some (.float .f32 (zs.getD i 0))) (hn : xs.length + zs.length ≤ 1048576) (hB : B ≤ w.heap.size)
    (h : ∀ q c w', OF B w' (.slice q (xs ++ zs).length c) (xs ++ zs) → Below B w w' → w.grownBy w' v.ownBlock → ((Value.slice q (xs ++ zs).length c).ownBlock = v.ownBlock ∨ (Value.slice q (xs ++ zs).length c).ownBlock = some w.heap.size) → wpList Try.prog ops Q rest (a.put o.dst (.slice q (xs ++ zs).length c)) w') : wpList Try.prog ops Q (o :: rest) a w := by
  obtain ⟨i0, hi, hz0, hz1, hz2⟩ := info_parts Try.infoF32
  refine wpList_append_own_at w hg s x 22 ho B 25 i0 (.float .f32 0) 1 4 Try.underlying22 hi hz0 hz1 hz2 rfl (by decide) v xs.length (xs.map (Value.float .f32)) hs hO ⟨b, o0, .none⟩ zs.length c0 (zs.map (Value.float .f32)) hx (by simp) ?_ ?_ (by unfold maxLen; omega) (by omega) hB ?_
  · intro j u hj
    rw [List.getElem?_map] at hj
    have hl : j < zs.length := by
      rcases Nat.lt_or_ge j zs.length with h | h
      · exact h
      · rw [List.getElem?_eq_none h] at hj; cases hj
    rw [List.getElem?_eq_getElem hl] at hj
    simp only [Option.map_some, Option.some.injEq] at hj
    subst hj
    have := hc j hl
    rw [List.getD_eq_getElem?_getD, List.getElem?_eq_getElem hl] at this
    rw [show Addr.add ⟨b, o0, none⟩ j = ⟨b, o0 + j, none⟩ by unfold Addr.add; split; (rename_i h; subst h; rfl); rfl]
    exact this
  · intro u hu
    rw [List.mem_map] at hu
    obtain ⟨x, _, rfl⟩ := hu
    rfl
  · intro v' w' hown hgrow _ hblk
    have hO' : OF B w' v' (xs ++ zs) := by
      unfold OF
      simpa using hown
    obtain ⟨q, c, rfl⟩ := hO'.shape
    exact h q c w' hO' ((Below.refl _ _).grown hgrow hB fun k hk => (OF.block hO k hk).1) hgrow hblk
/-- An own rod in a variable (block g). -/
def JS (B g : Nat) (w : World) (R : Rd) (m : RL) : Prop := (RdA B w R m ∧ RdAt R m w g 0 ∧ (∀ o, w.frozen? ⟨g, o, none⟩ = false) ∧ g < w.heap.size) ∧ (Value.slice m.p1 R.a.length m.c1).ownBlock ≠ some g ∧ (Value.slice m.p2 R.b.length m.c2).ownBlock ≠ some g ∧ (Value.slice m.p3 R.c.length m.c3).ownBlock ≠ some g ∧ (Value.slice m.p4 R.d.length m.c4).ownBlock ≠ some g
theorem wpList_named {P : Program} {ops : Array Oper} {Q : Exit → Act → World → Prop} {l : List Oper} {a : Act} {w : World} (h : ∀ ws, ws = w → wpList P ops Q l a ws) : wpList P ops Q l a w := h w rfl
theorem apart_new {u v v' : Value} {B n : Nat} {w : World} {ys : List Nat} (hu : OF B w u ys) (h : u.ownBlock = none ∨ u.ownBlock ≠ v.ownBlock) (hv : v'.ownBlock = v.ownBlock ∨ v'.ownBlock = some w.heap.size) : u.ownBlock = none ∨ u.ownBlock ≠ v'.ownBlock := by
  rcases hv with hv | hv
  · rw [hv]; exact h
  · cases hk : u.ownBlock with
    | none => exact .inl rfl
    | some k => refine .inr fun e => ?_; rw [hv] at e; have := (OF.block hu k hk).2; simp at e; omega
theorem Ap.of_row {p q : Option Addr} {n c m d : Nat} (h : (Value.slice p n c).ownBlock = none ∨ (Value.slice p n c).ownBlock ≠ (Value.slice q m d).ownBlock) : Ap p q := by
  rintro a b rfl rfl e
  rcases h with h | h
  · cases h
  · exact h (by simp [Value.ownBlock, e])
end Go.Proofs.Ytgkcfeaknehopaa
