/-
  Slices of whole numbers that are appended to. No condition but what each law says.
-/
import Derived.Test.YtphamdlnnfionaaNb4
import Derived.Test.YtphamdlnnfionaaPlMk
set_option linter.unusedSimpArgs false
set_option linter.unusedVariables false
set_option linter.unusedSectionVars false
namespace Go.Proofs.Ytphamdlnnfionaa
open Go Go.RowKit
open Go.ChangeShapes Go.WideShapes Go.ChangeAt Go.RowKit Go.Joins
theorem OI.nil0 (B : Nat) (w : World) : OI B w (.slice .none 0 0) [] := World.ownsRow_nil _ _ _ _
theorem OI.empty {B n : Nat} (w : World) (t : TypeId) (hn : n = w.heap.size) (hB : B ≤ w.heap.size) (ht : t = 2) : OI B (w.alloc (.cells #[] t)) (.slice (some ⟨n, 0, .none⟩) 0 0) [] := by
  subst ht
  subst hn
  exact World.ownsRow_lit w #[] 0 hB (by simp) (by simp)
/-- A slice of whole numbers of the call's own, and a bool. -/
def BIB (w : World) (L : List Int) (b : Bool) (e : Ending) (w' : World) : Prop := ∃ u, e = .returned (.tuple #[u, .bool b]) ∧ Below w.heap.size w w' ∧ OI w.heap.size w' u L
theorem wpList_appI {B : Nat} {xs : List Int} {v : Value} {b : Nat} {r : Int} {w : World} {ops : Array Oper} {rest : List Oper} {o : Oper} {a : Act} {Q : Exit → Act → World → Prop} (hg : o.guard = .none) {s x : Operand}
    (ho : o.op = .call { callee := .builtin .append, args := #[s, x], argTypes := #[34, 34] }) (hs : a.eval s = v) (hx : a.eval x = .slice (some ⟨b, 0, .none⟩) 1 1) (hO : OI B w v xs) (hc : w.cell? ⟨b, 0, .none⟩ = some (.int .i64 r)) (hn : xs.length < 1048576) (hB : B ≤ w.heap.size)
    (h : ∀ q c w', OI B w' (.slice q (xs.length + 1) c) (xs ++ [r]) → Below B w w' → wpList Try.prog ops Q rest (a.put o.dst (.slice q (xs.length + 1) c)) w') : wpList Try.prog ops Q (o :: rest) a w := by
  obtain ⟨i0, hi, hz0, hz1, hz2⟩ := info_parts Try.infoI64
  refine wpList_append_own w hg s x 34 ho B 2 i0 (.int .i64 0) 1 8 Try.underlying34 hi hz0 hz1 hz2 rfl (by decide) v xs.length (xs.map (Value.int .i64)) hs hO ⟨b, 0, .none⟩ 1 1 [.int .i64 r] hx rfl ?_ ?_ (by unfold maxLen; omega) (by omega) hB ?_
  · intro j u hj
    match j, hj with
    | 0, hj => simp at hj; subst hj; simpa [Addr.add] using hc
    | j + 1, hj => simp at hj
  · intro u hu; simp at hu; subst hu; rfl
  · intro v' w' hown hgrow _
    have hO' : OI B w' v' (xs ++ [r]) := by
      unfold OI
      simpa using hown
    obtain ⟨q, c, rfl⟩ := hO'.shape
    simp only [List.length_append, List.length_cons, List.length_nil, Nat.zero_add] at hO' ⊢
    exact h q c w' hO' ((Below.refl _ _).grown hgrow hB fun k hk => (OI.block hO k hk).1)
/-- In a plan: a call that hands back an own slice of whole numbers. -/
def Clm.ownI (B : Nat) (xs : List Int) : Clm := ⟨1, fun _ v => ∃ q c, v = .slice q xs.length c, fun _ v w => OI B w v xs, fun _ => ⟨_, none, 0, rfl⟩,
  fun _ v w w' h hb => h.later hb, fun h => nomatch h⟩
theorem wpC_callI {P : Program} {ops : Array Oper} {Q : Exit → Act → World → Prop} {W : World} {l : List Oper} {cs : List Clm} {i : Nat} {ks : List (Nat × (World → Prop))} {a : Act} {o : Oper}
    (xs : List Int) (hw : Region.wanted o (yielded ops a.tmps) = true) {f : FuncId} {args : Array Value} (h1 : ∀ w, (execOp a.eval o).run P w = .ok (.enter f args) w)
    (hc : ∀ w, Below W.heap.size W w → depK o ks w → Calls P f args w (fun e w' => ∃ u, e = .returned u ∧ Below w.heap.size w w' ∧ OI w.heap.size w' u xs))
    (h : ∀ q c, wpC P ops Q W l cs (i + 1) ((i, fun w => OI W.heap.size w (.slice q xs.length c) xs) :: ks) (a.put o.dst (.slice q xs.length c))) : wpC P ops Q W (o :: l) (Clm.ownI W.heap.size xs :: cs) i ks a := by
  refine wpC_call (Clm.ownI W.heap.size xs) rfl hw h1 (fun w hb hk => (hc w hb hk).mono ?_) ?_
  · rintro e w' ⟨u, rfl, hbl, hO⟩
    obtain ⟨q, c, rfl⟩ := hO.shape
    exact ⟨_, rfl, hbl, ⟨q, c, rfl⟩, hO.base hb.size⟩
  · rintro v ⟨q, c, rfl⟩; exact h q c
end Go.Proofs.Ytphamdlnnfionaa
