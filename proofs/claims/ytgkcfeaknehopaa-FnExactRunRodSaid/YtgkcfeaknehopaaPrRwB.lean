/-
  Rows of equations: one more row. No condition but what each law says.
-/
import Derived.Test.YtgkcfeaknehopaaPrRwA
set_option linter.unusedSimpArgs false
set_option linter.unusedVariables false
set_option linter.unusedSectionVars false
namespace Go.Proofs.Ytgkcfeaknehopaa
open Go Go.RowKit
open Go.ChangeShapes Go.WideShapes Go.ChangeAt Go.RowKit Go.Joins
theorem RW.ptr {B n : Nat} {w : World} {u : Value} {zs : List Nat} (h : RW B w u n zs) (hn : 1 ≤ n) : ∃ g c, u = .slice (some ⟨g, 0, none⟩) n c := by
  have hl := h.len
  unfold RW World.ownsRow at h
  rcases h.2 with ⟨h', hx⟩ | ⟨g, cap, cur, h', _⟩
  · exfalso
    omega
  · exact ⟨g, cap, h'⟩
theorem RW.nil (B : Nat) (w : World) (t : TypeId) (ht : t = 92) (hB : B ≤ w.heap.size) : RW B (w.alloc (.cells #[] t)) (.slice (some ⟨w.heap.size, 0, none⟩) 0 0) 0 [] := by
  subst ht
  exact World.ownsRow_lit w #[] 0 hB (by simp) (by simp)
def Clm.rowE (o : Nat) : Clm := ⟨1, fun _ u => ∃ b, u = .slice (some ⟨b, 0, none⟩) 0 0, fun _ u w => RW o w u 0 [], fun _ => ⟨_, 0, rfl⟩,
  fun _ u w w' h hb => RW.later h hb, fun h => nomatch h⟩
theorem wpC_rowE {ops : Array Oper} {Q : Exit → Act → World → Prop} {W : World} {l : List Oper} {cs : List Clm} {i : Nat} {ks : List (Nat × (World → Prop))} {a : Act} {o : Oper}
    (hw : Region.wanted o (yielded ops a.tmps) = true) (h1 : ∀ w, (execOp a.eval o).run Try.prog w = .ok (.value (.slice (some ⟨w.heap.size, 0, none⟩) 0 0)) (w.alloc (.cells #[] 92)))
    (h : ∀ b, wpC Try.prog ops Q W l cs (i + 1) ((i, fun w => RW W.heap.size w (.slice (some ⟨b, 0, none⟩) 0 0) 0 []) :: ks) (a.put o.dst (.slice (some ⟨b, 0, none⟩) 0 0))) : wpC Try.prog ops Q W (o :: l) (Clm.rowE W.heap.size :: cs) i ks a := by
  refine wpC_make (Clm.rowE W.heap.size) rfl hw (fun w hb hk => ⟨_, _, h1 w, (Below.refl _ _).alloc (Nat.le_refl _) _, ⟨_, rfl⟩, RW.nil _ _ _ rfl hb.size⟩) ?_
  rintro v ⟨b, rfl⟩
  exact h b
theorem wpList_appRow {B n : Nat} {zs : List Nat} {v : Value} {b r0 r1 r2 r3 : Nat} {w : World} {ops : Array Oper} {rest : List Oper} {o : Oper} {a : Act} {Q : Exit → Act → World → Prop} (hg : o.guard = .none) {s x : Operand}
    (ho : o.op = .call { callee := .builtin .append, args := #[s, x], argTypes := #[90, 90] }) (hs : a.eval s = v) (hx : a.eval x = .slice (some ⟨b, 0, .none⟩) 1 1) (hO : RW B w v n zs) (hc0 : w.cell? ⟨b, 0, .none⟩ = some (.float .f32 r0)) (hc1 : w.cell? ⟨b, 1, .none⟩ = some (.float .f32 r1)) (hc2 : w.cell? ⟨b, 2, .none⟩ = some (.float .f32 r2)) (hc3 : w.cell? ⟨b, 3, .none⟩ = some (.float .f32 r3)) (hn : n < 1048576) (hB : B ≤ w.heap.size)
    (h : ∀ g c w', RW B w' (.slice (some ⟨g, 0, none⟩) (n + 1) c) (n + 1) (zs ++ [r0, r1, r2, r3]) → Below B w w' → wpList Try.prog ops Q rest (a.put o.dst (.slice (some ⟨g, 0, none⟩) (n + 1) c)) w') : wpList Try.prog ops Q (o :: rest) a w := by
  obtain ⟨i0, hi, hz0, hz1, hz2⟩ := info_parts Try.infoRow
  refine wpList_append_own_at w hg s x 90 ho B 92 i0 (.agg #[.float .f32 0, .float .f32 0, .float .f32 0, .float .f32 0]) 4 16 (by kernel_rfl) hi hz0 hz1 hz2 (by decide) (by decide) v n (zs.map (Value.float .f32)) hs hO ⟨b, 0, .none⟩ 1 1 [.float .f32 r0, .float .f32 r1, .float .f32 r2, .float .f32 r3] hx rfl ?_ ?_ (by unfold maxLen; omega) (by omega) hB ?_
  · intro j u hj
    match j, hj with
    | 0, hj => simp at hj; subst hj; simpa [Addr.add] using hc0
    | 1, hj => simp at hj; subst hj; simpa [Addr.add] using hc1
    | 2, hj => simp at hj; subst hj; simpa [Addr.add] using hc2
    | 3, hj => simp at hj; subst hj; simpa [Addr.add] using hc3
    | j + 4, hj => simp at hj
  · intro u hu
    simp at hu
    rcases hu with rfl | rfl | rfl | rfl <;> rfl
  · intro v' w' hown hgrow _ _
    have hO' : RW B w' v' (n + 1) (zs ++ [r0, r1, r2, r3]) := by
      unfold RW
      simpa using hown
    obtain ⟨g, c, rfl⟩ := hO'.ptr (by omega)
    exact h g c w' hO' ((Below.refl _ _).grown hgrow hB fun k hk => (World.ownsRow.lt hO k hk).1)
end Go.Proofs.Ytgkcfeaknehopaa
