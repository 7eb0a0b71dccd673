/-
  A map from whole numbers to bools that the call has made: what it holds, told as a list of bools; reading and setting. No condition but what each law says.
-/
import Derived.Test.YtphamdlnnfionaaIsl
import Derived.Maps.OwnOps
import Derived.Maps.OwnSet
set_option linter.unusedSimpArgs false
set_option linter.unusedVariables false
set_option linter.unusedSectionVars false
namespace Go.Proofs.Ytphamdlnnfionaa
open Go Go.RowKit
open Go.ChangeShapes Go.WideShapes Go.ChangeAt Go.RowKit Go.Joins
open Go.Maps
theorem lawI64 : Keyed Try.prog 2 := int_keyed Try.underlying2
theorem zeroBool (w : World) : (zeroValue 4).run Try.prog w = .ok (.bool false) w := by kernel_rfl
theorem plainElem_bool_inv {H : Type} {P : Program} {e : TypeId} (he : P.underlying e = some .bool) {v : Value} {z : DataW H × List MemPlace} (h : plainElem P e v = some z) : ∃ x, v = .bool x ∧ z = (.lit (.bool x), []) := by
  unfold plainElem at h
  rw [he] at h
  split at h
  · cases h; exact ⟨_, rfl, rfl⟩
  · rename_i h1; cases h1
  · rename_i h1; cases h1
  · cases h
/-- Block b is a map of the call's own: what it says of the numbers below the list's length is what the list says. -/
def MB (w : World) (b : Nat) (S : List Bool) : Prop := ∃ D : DataW Unit, w.ownsMap Try.prog 2 (plainElem Try.prog 4) b (cntT S) D ∧ ∀ k : Nat, k < S.length → D.atKey (.int .i64 k) (.lit (.bool false)) = .lit (.bool (S.getD k false))
theorem MB.kept {w w' : World} {b : Nat} {S : List Bool} {row : Option Nat} (h : MB w b S) (hg : w.grownBy w' row) (hne : some b ≠ row) : MB w' b S := by
  obtain ⟨D, h1, h2⟩ := h
  exact ⟨D, h1.kept hg hne, h2⟩
theorem MB.lt {w : World} {b : Nat} {S : List Bool} (h : MB w b S) : b < w.heap.size := by
  obtain ⟨D, h1, _⟩ := h
  exact h1.lt
theorem MB.later {w w' : World} {b : Nat} {S : List Bool} {B : Nat} (h : MB w b S) (hb : Below B w w') (hB : b < B) : MB w' b S := by
  obtain ⟨D, ⟨es, clock, h1, F, hs, hD⟩, h2⟩ := h
  exact ⟨D, ⟨es, clock, (hb.block b hB).trans h1, F, hs, hD⟩, h2⟩
theorem MB.made (w : World) (n : Nat) : MB (w.alloc (.map #[] 0)) w.heap.size (List.replicate n false) :=
  ⟨.map [], (World.ownsMap_made w _ _ _).mono (Nat.zero_le _), fun k hk => by
    have : (List.replicate n false).getD k false = false := by rw [List.getD_eq_getElem?_getD, List.getElem?_replicate]; split <;> rfl
    rw [this]; rfl⟩
theorem wpList_lookB {w : World} {ops : Array Oper} {rest : List Oper} {o : Oper} {a : Act} {Q : Exit → Act → World → Prop} (hg : o.guard = none) {m x : Operand} (hop : o.op = Op.lookup 66 m x false)
    {b : Nat} {S : List Bool} (hm : a.eval m = .map (some b)) (hO : MB w b S) {k : Nat} (hk : k < S.length) (hs : S.length ≤ 1048576) (hx : a.eval x = .int .i64 k) {c : Bool} (hc0 : S.getD k false = c)
    (hK : wpList Try.prog ops Q rest (a.put o.dst (.bool c)) w) : wpList Try.prog ops Q (o :: rest) a w := by
  refine wpList_plain hg fun K' hK' => ?_
  obtain ⟨D, hown, hat⟩ := hO
  obtain ⟨v, ps, hrun, hv⟩ := hown.lookup lawI64 Try.underlying66 (zeroBool w) (plainElem_bool Try.underlying4 false) (keyOf_int_mk Try.underlying2 (WalkArith.wf_i64 (show (-9223372036854775808 : Int) ≤ (k : Int) ∧ (k : Int) ≤ 9223372036854775807 by omega)))
  obtain ⟨c, rfl, hc⟩ := plainElem_bool_inv Try.underlying4 hv
  simp only [Prod.mk.injEq] at hc
  have h2 := hat k hk
  rw [hc.1] at h2
  simp only [DataW.lit.injEq, Lit.bool.injEq] at h2
  rw [hc0] at h2
  subst h2
  unfold Oper.wp
  simp [execOp, hop, hm, hx, hrun, Result.andThen]
  exact hK' _ _ hK
theorem wpList_setB {w : World} {ops : Array Oper} {rest : List Oper} {o : Oper} {a : Act} {Q : Exit → Act → World → Prop} (hg : o.guard = none) {m x v : Operand} (hop : o.op = Op.mapUpdate 66 m x v)
    {b : Nat} {S : List Bool} (hm : a.eval m = .map (some b)) (hO : MB w b S) {k : Nat} (hk : k < S.length) (hs : S.length ≤ 1048576) (hf : S.getD k false = false) (hx : a.eval x = .int .i64 k) (hv : a.eval v = .bool true)
    (hK : ∀ w', MB w' b (S.set k true) → w.grownBy w' (some b) → w'.heap.size = w.heap.size → wpList Try.prog ops Q rest (a.put o.dst undef) w') : wpList Try.prog ops Q (o :: rest) a w := by
  obtain ⟨D, hown, hat⟩ := hO
  have hkey := keyOf_int_mk (P := Try.prog) Try.underlying2 (WalkArith.wf_i64 (show (-9223372036854775808 : Int) ≤ (k : Int) ∧ (k : Int) ≤ 9223372036854775807 by omega))
  have hM := hown.isMap
  refine wpList_plain hg fun K' hK' => ?_
  have hc := cntT_le S
  obtain ⟨es, clock, hb, F, hsz, hD⟩ := id hown
  obtain ⟨w', hrun, r1, r2⟩ := hown.update lawI64 Try.underlying66 (by unfold maxLen; omega) hkey (plainElem_bool Try.underlying4 true)
  obtain ⟨es', clock', hrun', _⟩ := Maps.fit_store (R' := plainElem Try.prog 4) lawI64 Try.underlying66 hb F (by unfold maxLen; omega) (fun _ _ _ _ hz => hz) hkey (plainElem_bool Try.underlying4 true)
  have hw' : w'.heap.size = w.heap.size := by
    rw [hrun] at hrun'
    cases hrun'
    simp [Go.ChangeMaps.setBlock]
  unfold Oper.wp
  simp [execOp, hop, hm, hx, hv, hrun, Result.andThen]
  refine hK' _ _ (hK w' ⟨_, by rw [cntT_set S k hk hf]; exact r1, fun j hj => ?_⟩ r2 hw')
  rw [List.length_set] at hj
  by_cases e : j = k
  · subst e
    rw [atKey_put_same hM (by trivial), set_getD_same hk]
  · rw [atKey_put_other (by simp; omega), hat j hj, set_getD_ne (by omega)]
/-- One number appended: only the row itself turns. -/
theorem wpList_appJ {B : Nat} {xs : List Int} {v : Value} {b : Nat} {r : Int} {w : World} {ops : Array Oper} {rest : List Oper} {o : Oper} {a : Act} {Q : Exit → Act → World → Prop} (hg : o.guard = .none) {s x : Operand}
    (ho : o.op = .call { callee := .builtin .append, args := #[s, x], argTypes := #[34, 34] }) (hs : a.eval s = v) (hx : a.eval x = .slice (some ⟨b, 0, .none⟩) 1 1) (hO : OI B w v xs) (hc : w.cell? ⟨b, 0, .none⟩ = some (.int .i64 r)) (hn : xs.length < 1048576) (hB : B ≤ w.heap.size)
    (h : ∀ q c w', OI B w' (.slice q (xs.length + 1) c) (xs ++ [r]) → Below B w w' → w.grownBy w' v.ownBlock → ((Value.slice q (xs.length + 1) c).ownBlock = v.ownBlock ∨ (Value.slice q (xs.length + 1) c).ownBlock = some w.heap.size) → wpList Try.prog ops Q rest (a.put o.dst (.slice q (xs.length + 1) c)) w') : wpList Try.prog ops Q (o :: rest) a w := by
  obtain ⟨i0, hi, hz0, hz1, hz2⟩ := info_parts Try.infoI64
  refine wpList_append_own_at w hg s x 34 ho B 2 i0 (.int .i64 0) 1 8 Try.underlying34 hi hz0 hz1 hz2 rfl (by decide) v xs.length (xs.map (Value.int .i64)) hs hO ⟨b, 0, .none⟩ 1 1 [.int .i64 r] hx rfl ?_ ?_ (by unfold maxLen; omega) (by omega) hB ?_
  · intro j u hj
    match j, hj with
    | 0, hj => simp at hj; subst hj; simpa [Addr.add] using hc
    | j + 1, hj => simp at hj
  · intro u hu; simp at hu; subst hu; rfl
  · intro v' w' hown hgrow _ hblk
    have hO' : OI B w' v' (xs ++ [r]) := by
      unfold OI
      simpa using hown
    obtain ⟨q, c, rfl⟩ := hO'.shape
    simp only [List.length_append, List.length_cons, List.length_nil, Nat.zero_add] at hO' hblk ⊢
    exact h q c w' hO' ((Below.refl _ _).grown hgrow hB fun k hk => (OI.block hO k hk).1) hgrow hblk
theorem OI.turned {B b : Nat} {w w' : World} {u : Value} {xs : List Int} (h : OI B w u xs) (hg : w.grownBy w' (some b)) (hb : b < B) : OI B w' u xs := by
  refine h.kept hg ?_
  cases hu : u.ownBlock with
  | none => exact .inl rfl
  | some k => exact .inr (fun e => by have := (h.block k hu).1; simp at e; omega)
theorem below_of_grown {B b : Nat} {w w' : World} (hg : w.grownBy w' (some b)) (hb : B ≤ b) (hB : B ≤ w.heap.size) : Below B w w' := (Below.refl B w).grown hg hB (fun k hk => by cases hk; exact hb)
end Go.Proofs.Ytphamdlnnfionaa
