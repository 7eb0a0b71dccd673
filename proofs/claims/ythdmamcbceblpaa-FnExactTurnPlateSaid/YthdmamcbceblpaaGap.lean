/-
  More steps of plans with operations that turn memory: a slice of one number, an append to an own slice, a store behind which what it waited for is told anew. No condition but what each law says.
-/
import Derived.Test.YthdmamcbceblpaaPlanG
import Derived.Test.YthdmamcbceblpaaSl
set_option linter.unusedSimpArgs false
set_option linter.unusedVariables false
set_option linter.unusedSectionVars false
namespace Go.Proofs.Ythdmamcbceblpaa
open Go Go.RowKit
section
variable {P : Program} {ops : Array Oper} {Q : Exit → Act → World → Prop} {F I : World → Prop} {l : List Oper} {cs : List GC} {i : Nat} {ks : List (Nat × (World → Prop))} {a : Act} {o : Oper}
theorem wpG_lit1 {B : Nat} {x : Value} {t : TypeId} (hx : o.op.operands.toList.map a.eval = [x]) (hw : Region.wanted o (yielded ops a.tmps) = true) (hB : ∀ w, I w → B ≤ w.heap.size) (h1 : ∀ w, (execOp a.eval o).run P w = .ok (.value (.slice (some ⟨w.heap.size, 0, none⟩) 1 1)) (w.alloc (.cells #[x] t)))
    (h : ∀ b, wpG P ops Q F I l cs (i + 1) ((i, fun w => B ≤ b ∧ owned w b [x]) :: ks) (a.put o.dst (.slice (some ⟨b, 0, none⟩) 1 1))) : wpG P ops Q F I (o :: l) (GC.of (Clm.lit1 B) :: cs) i ks a := by
  have ht : (oargs ops o a).take 1 = [x] := by unfold oargs; rw [hx]; rfl
  refine wpG_one (Clm.lit1 B) rfl hw (fun w hi hk => ?_) ?_
  · rw [h1 w]
    exact ⟨(Below.refl _ _).alloc (Nat.le_refl _) _, ⟨_, rfl⟩, by show lit1K B ((oargs ops o a).take 1) (.slice (some ⟨w.heap.size, 0, none⟩) 1 1) _; rw [ht]; exact ⟨hB w hi, owned_alloc w [x] t⟩⟩
  · rintro v ⟨b, rfl⟩
    show wpG P ops Q F I l cs (i + 1) ((i, fun w => lit1K B ((oargs ops o a).take 1) (.slice (some ⟨b, 0, none⟩) 1 1) w) :: ks) _
    rw [ht]
    exact h b
/-- An operation that turns memory and gives a value of a class. -/
theorem wpG_turnE (c : Clm) (hm : c.mode = 3) (I' : World → Prop) (hI : ∀ w w', I' w → Below w.heap.size w w' → I' w') (hw : Region.wanted o (yielded ops a.tmps) = true)
    (h1 : ∀ w, I w → depK o ks w → uponC P (fun u w' => I' w' ∧ c.S (o.op.operands.toList.map a.eval) u ∧ c.K (oargs ops o a) u w') ((execOp a.eval o).run P w))
    (h : ∀ v, c.S (o.op.operands.toList.map a.eval) v → wpG P ops Q F I' l cs (i + 1) [(i, c.K (oargs ops o a) v)] (a.put o.dst v)) : wpG P ops Q F I (o :: l) (⟨c, I', hI⟩ :: cs) i ks a := by
  simp only [wpG]
  refine ⟨.inl ⟨hw, .inr (.inr (.inl hm)), fun h => ?_, fun h => ?_, fun h => ?_, fun _ w hi hk => h1 w hi hk⟩, fun v hv => ?_⟩
  · have : c.mode = 0 := h; omega
  · have : c.mode = 4 := h; omega
  · have : c.mode = 1 := h; omega
  · have e1 : invG I ⟨c, I', hI⟩ = I' := invG_eq hm
    have e2 : nextG c i (c.K (oargs ops o a) v) ks = [(i, c.K (oargs ops o a) v)] := by
      unfold nextG
      split <;> first | omega | exact absurd hm (by assumption) | rfl
    show wpG P ops Q F (invG I ⟨c, I', hI⟩) l cs (i + 1) (nextG c i (c.K (oargs ops o a) v) ks) _
    rw [e1, e2]; exact h v hv
/-- A store of a struct: of all that it waited for it tells M anew. -/
def Clm.putM (M : List Value → World → Prop) (hM : Keeps M) : Clm := ⟨3, fun _ u => u = undef, fun x _ w => M x w, fun _ => ⟨undef, rfl⟩, fun x _ w w' h hb => hM x w w' h hb, fun h => nomatch h⟩
theorem wpG_putM {ty : TypeId} {X Y : Operand} {b : Nat} {vs : Array Value} (olds : List Value) (M : List Value → World → Prop) (hM : Keeps M) (I' : World → Prop) (hI : ∀ w w', I' w → Below w.heap.size w w' → I' w') {x0 : List Value} (hox : oargs ops o a = x0) (ho : o.op = .store ty X Y) (hx : a.eval X = .pointer (some ⟨b, 0, none⟩)) (hy : a.eval Y = .agg vs) (hn : olds.length = vs.size)
    (hi : (P.info? ty).map (·.size) = some vs.size) (h2 : vs.toList.all (·.oneCell') = true) (hw : Region.wanted o (yielded ops a.tmps) = true) (hk : ∀ w, I w → owned w b olds) (hI' : ∀ w, I w → depK o ks w → I' (w.setCells b 0 vs.toList) ∧ M x0 (w.setCells b 0 vs.toList))
    (h : wpG P ops Q F I' l cs (i + 1) [(i, M x0)] (a.put o.dst undef)) : wpG P ops Q F I (o :: l) (⟨Clm.putM M hM, I', hI⟩ :: cs) i ks a := by
  have h1 : vs.all (·.oneCell') = true := Array.all_eq_true_iff_forall_mem.2 fun v hv => List.all_eq_true.1 h2 v (by simpa using hv)
  refine wpG_turnE (Clm.putM M hM) rfl I' hI hw (fun w hi' hkw => ?_) (fun u hu => ?_)
  · have hown := hk w hi'
    have ht : w.there b 0 vs.size := fun j hj => by
      have hj' : j < olds.length := by omega
      have := hown j olds[j] (List.getElem?_eq_getElem hj')
      simp only [Nat.zero_add]
      exact ⟨by rw [this.1]; rfl, this.2⟩
    have hr : (execOp a.eval o).run P w = .ok .skip (w.setCells b 0 vs.toList) := by
      unfold execOp
      simp only [ho, hx, hy, Instr.storeAt, Instr.sureAddr, Sem.run_bind, Sem.run_pure, Result.andThen_ok, run_storeVar_mid w b 0 ty vs ht hi h1]
    rw [hr]
    obtain ⟨g1, g2⟩ := hI' w hi' hkw
    exact ⟨g1, rfl, by show M (oargs ops o a) _; rw [hox]; exact g2⟩
  · have hu : u = undef := hu
    subst hu
    show wpG P ops Q F I' l cs (i + 1) [(i, M (oargs ops o a))] _
    rw [hox]; exact h
end
/-- An own slice with a number more; where it lies. -/
def appP (B S : Nat) (g0 : Option Nat) (xs : List Nat) (v : Value) (w : World) : Prop := OF B w v xs ∧ (v.ownBlock = g0 ∨ ∀ k, v.ownBlock = some k → S ≤ k)
theorem appP.later {B S : Nat} {g0 : Option Nat} {xs : List Nat} {v : Value} {w w' : World} (h : appP B S g0 xs v w) (hb : Below w.heap.size w w') : appP B S g0 xs v w' := ⟨h.1.later hb, h.2⟩
def Clm.appG (B S : Nat) (g0 : Option Nat) (xs : List Nat) : Clm := ⟨3, fun _ u => ∃ q c, u = .slice q xs.length c, fun _ u w => appP B S g0 xs u w, fun _ => ⟨_, none, 0, rfl⟩, fun _ _ _ _ h hb => appP.later h hb, fun h => nomatch h⟩
theorem wpG_app {ops : Array Oper} {Q : Exit → Act → World → Prop} {F I : World → Prop} {l : List Oper} {cs : List GC} {i : Nat} {ks : List (Nat × (World → Prop))} {a : Act} {o : Oper} (B S : Nat) (xs : List Nat) (r : Nat) (I' : World → Prop) (hI : ∀ w w', I' w → Below w.heap.size w w' → I' w') {s x : Operand} {v : Value} {b : Nat}
    (ho : o.op = .call { callee := .builtin .append, args := #[s, x], argTypes := #[22, 22] }) (hs : a.eval s = v) (hx : a.eval x = .slice (some ⟨b, 0, .none⟩) 1 1)
    (hw : Region.wanted o (yielded ops a.tmps) = true) (hk : ∀ w, I w → depK o ks w → (OF B w v xs ∧ w.cell? ⟨b, 0, .none⟩ = some (.float .f32 r)) ∧ B ≤ w.heap.size ∧ S ≤ w.heap.size) (hn : xs.length < 1048576)
    (hI' : ∀ w w', I w → w.grownBy w' v.ownBlock → I' w')
    (h : ∀ q c, wpG Try.prog ops Q F I' l cs (i + 1) [(i, fun w => appP B S v.ownBlock (xs ++ [r]) (.slice q (xs ++ [r]).length c) w)] (a.put o.dst (.slice q (xs ++ [r]).length c))) : wpG Try.prog ops Q F I (o :: l) (⟨Clm.appG B S v.ownBlock (xs ++ [r]), I', hI⟩ :: cs) i ks a := by
  obtain ⟨i0, hi, hz0, hz1, hz2⟩ := info_parts Try.infoF32
  refine wpG_turnE (Clm.appG B S v.ownBlock (xs ++ [r])) rfl I' hI hw (fun w hb hd => ?_) ?_
  · obtain ⟨⟨hO, hc⟩, hB, hS⟩ := hk w hb hd
    obtain ⟨v', w', hr, h2, h3, h4, h5⟩ := run_append_own_at (P := Try.prog) w B 22 o.type 33 i0 (.float .f32 0) 1 4 Try.underlying22 hi hz0 hz1 hz2 rfl (by decide) v xs.length (xs.map (Value.float .f32)) hO ⟨b, 0, .none⟩ 1 1 [.float .f32 r] rfl
      (by
        intro j u hj
        match j, hj with
        | 0, hj => simp at hj; subst hj; simpa [Addr.add] using hc
        | j + 1, hj => simp at hj) (by intro u hu; simp at hu; subst hu; rfl) (by unfold maxLen; omega) (by omega) hB
    have hO' : OF B w' v' (xs ++ [r]) := by
      unfold OF
      simpa using h2
    have he : (execOp a.eval o).run Try.prog w = .ok (.value v') w' := by
      unfold execOp
      simp only [ho, resolve, invoke, builtin, Sem.run_bind, Sem.run_pure, Result.andThen_ok, List.map_toArray, List.map_cons, List.map_nil, hs, hx, hr]
    rw [he]
    exact ⟨hI' w w' hb h3, hO'.shape, hO', h5.imp id fun h k hk => by rw [h] at hk; cases hk; exact hS⟩
  · rintro u ⟨q, c, rfl⟩
    exact h q c
end Go.Proofs.Ythdmamcbceblpaa
