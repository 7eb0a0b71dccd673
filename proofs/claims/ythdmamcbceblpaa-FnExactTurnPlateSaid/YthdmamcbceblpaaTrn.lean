/-
  Two appends and two stores in one statement that draws its order: the steps. No condition but what each law says.
-/
import Derived.Test.YthdmamcbceblpaaPlanH
import Derived.Test.YthdmamcbceblpaaPln
set_option linter.unusedSimpArgs false
set_option linter.unusedVariables false
set_option linter.unusedSectionVars false
namespace Go.Proofs.Ythdmamcbceblpaa
open Go Go.RowKit
open Go.ChangeShapes Go.WideShapes Go.ChangeAt Go.RowKit Go.Joins
section
variable {P : Program} {ops : Array Oper} {Q : Exit → Act → World → Prop} {F I : World → Prop} {T : World → World → Prop} {l : List Oper} {cs : List GC} {i : Nat} {ks ps : List (Nat × (World → Prop))} {a : Act} {o : Oper}
theorem wpH_norm {a' : Act} (ha : a = a') (h : wpH P ops Q F T I l cs i ks ps a') : wpH P ops Q F T I l cs i ks ps a := ha ▸ h
theorem wpH_nil (h : ∀ w, I w → allK ks w → allK ps w → Q .normal a w) : wpH P ops Q F T I [] [] i ks ps a := h
theorem wpH_det (v : Value) (hw : Region.wanted o (yielded ops a.tmps) = true) (hs : ∀ cs b, o.op ≠ .select cs b) (h1 : ∀ w, (execOp a.eval o).run P w = .ok (.value v) w)
    (h : wpH P ops Q F T I l cs (i + 1) ks ps (a.put o.dst v)) : wpH P ops Q F T I (o :: l) (GC.of (Clm.det P o) :: cs) i ks ps a := by
  have hp : PureAt P o (o.op.operands.toList.map a.eval) v := ⟨⟨a, rfl⟩, fun a' w he => by
    rw [execOp_congr (ρ := a'.eval) (ρ' := a.eval) o hs fun x hx => ?_]
    · exact h1 w
    · have := List.map_inj_left.1 he x (by simpa using hx)
      exact this⟩
  simp only [wpH]
  refine ⟨.inl ⟨hw, .inl rfl, fun _ w => ?_, fun h => absurd (show (0 : Nat) = 4 from h) (by decide), fun h => absurd (show (0 : Nat) = 1 from h) (by decide), fun h => absurd (show (0 : Nat) = 3 from h) (by decide), fun h => absurd (show (0 : Nat) = 5 from h) (by decide)⟩, fun u hu => ?_⟩
  · rw [h1 w]; exact ⟨⟨0, rfl⟩, fun u hu => hp.uniq hu⟩
  · have hu : u = v := hu v hp
    subst hu
    exact h
theorem wpH_any (v : Value) (hw : Region.wanted o (yielded ops a.tmps) = true) (h1 : ∀ w, F w → (execOp a.eval o).run P w = .ok (.value v) w)
    (h : wpH P ops Q F T I l cs (i + 1) ks ps (a.put o.dst v)) : wpH P ops Q F T I (o :: l) (GC.of (Clm.any v) :: cs) i ks ps a := by
  simp only [wpH]
  refine ⟨.inl ⟨hw, .inr (.inr (.inr (.inl rfl))), fun h => absurd (show (4 : Nat) = 0 from h) (by decide), fun _ => ⟨fun _ _ _ => trivial, fun w hF => ?_⟩, fun h => absurd (show (4 : Nat) = 1 from h) (by decide), fun h => absurd (show (4 : Nat) = 3 from h) (by decide), fun h => absurd (show (4 : Nat) = 5 from h) (by decide)⟩, fun u hu => ?_⟩
  · rw [h1 w hF]; exact ⟨Below.refl _ _, rfl⟩
  · have hu : u = v := hu
    subst hu; exact h
theorem wpH_turnE (c : Clm) (hm : c.mode = 3) (I' : World → Prop) (hI : ∀ w w', I' w → Below w.heap.size w w' → I' w') (hw : Region.wanted o (yielded ops a.tmps) = true)
    (h1 : ∀ w, I w → depK o ks w → depK o ps w → uponC P (fun u w' => (I' w' ∧ T w w') ∧ c.S (o.op.operands.toList.map a.eval) u ∧ c.K (oargs ops o a) u w') ((execOp a.eval o).run P w))
    (h : ∀ v, c.S (o.op.operands.toList.map a.eval) v → wpH P ops Q F T I' l cs (i + 1) [(i, c.K (oargs ops o a) v)] ps (a.put o.dst v)) : wpH P ops Q F T I (o :: l) (⟨c, I', hI⟩ :: cs) i ks ps a := by
  simp only [wpH]
  refine ⟨.inl ⟨hw, .inr (.inr (.inl hm)), fun h => ?_, fun h => ?_, fun h => ?_, fun _ w hi hk hp => h1 w hi hk hp, fun h => ?_⟩, fun v hv => ?_⟩
  · have : c.mode = 0 := h; omega
  · have : c.mode = 4 := h; omega
  · have : c.mode = 1 := h; omega
  · have : c.mode = 5 := h; omega
  · have e1 : invG I ⟨c, I', hI⟩ = I' := invG_eq hm
    have e2 : nextH c i (c.K (oargs ops o a) v) ks = [(i, c.K (oargs ops o a) v)] := by
      unfold nextH
      split
      · omega
      · unfold nextG
        split <;> first | omega | exact absurd hm (by assumption) | rfl
    have e3 : nextP c i (c.K (oargs ops o a) v) ps = ps := by
      unfold nextP
      split
      · omega
      · rfl
    show wpH P ops Q F T (invG I ⟨c, I', hI⟩) l cs (i + 1) (nextH c i (c.K (oargs ops o a) v) ks) (nextP c i (c.K (oargs ops o a) v) ps) _
    rw [e1, e2, e3]; exact h v hv
/-- What turns memory leaves all blocks from S on that stand. -/
def TS (S : Nat) (w w' : World) : Prop := ∀ k, S ≤ k → k < w.heap.size → w'.heap[k]? = w.heap[k]?
/-- A slice of one value that outlives what turns memory. -/
def Clm.lit5 (S : Nat) : Clm := ⟨5, fun _ v => ∃ b, v = .slice (some ⟨b, 0, none⟩) 1 1, fun x v w => ∀ b, v = .slice (some ⟨b, 0, none⟩) 1 1 → S ≤ b ∧ b < w.heap.size ∧ owned w b (x.take 1), fun _ => ⟨_, 0, rfl⟩,
  fun x v w w' h hb b e => ⟨(h b e).1, Nat.lt_of_lt_of_le (h b e).2.1 hb.size, (h b e).2.2.later hb⟩, fun h => nomatch h⟩
theorem wpH_lit5 {S : Nat} {x : Value} {t : TypeId} (hx : o.op.operands.toList.map a.eval = [x]) (hw : Region.wanted o (yielded ops a.tmps) = true) (hS : ∀ w, F w → S ≤ w.heap.size) (hT : ∀ w w', T w w' → w.heap.size ≤ w'.heap.size ∧ TS S w w') (h1 : ∀ w, (execOp a.eval o).run P w = .ok (.value (.slice (some ⟨w.heap.size, 0, none⟩) 1 1)) (w.alloc (.cells #[x] t)))
    (h : ∀ b, wpH P ops Q F T I l cs (i + 1) ks ((i, fun w => owned w b [x]) :: ps) (a.put o.dst (.slice (some ⟨b, 0, none⟩) 1 1))) : wpH P ops Q F T I (o :: l) (GC.of (Clm.lit5 S) :: cs) i ks ps a := by
  have ht : (oargs ops o a).take 1 = [x] := by unfold oargs; rw [hx]; rfl
  simp only [wpH]
  refine ⟨.inl ⟨hw, .inr (.inr (.inr (.inr rfl))), fun h => absurd (show (5 : Nat) = 0 from h) (by decide), fun h => absurd (show (5 : Nat) = 4 from h) (by decide), fun h => absurd (show (5 : Nat) = 1 from h) (by decide), fun h => absurd (show (5 : Nat) = 3 from h) (by decide), fun _ => ⟨?_, fun w hF hp => ?_⟩⟩, fun v hv => ?_⟩
  · intro y v w w' hK hTw b e
    obtain ⟨k1, k2, k3⟩ := hK b e
    obtain ⟨t1, t2⟩ := hT w w' hTw
    exact ⟨k1, Nat.lt_of_lt_of_le k2 t1, owned_blk k3 (t2 b k1 k2)⟩
  · rw [h1 w]
    refine ⟨(Below.refl _ _).alloc (Nat.le_refl _) _, ⟨_, rfl⟩, ?_⟩
    intro b e
    simp only [Value.slice.injEq, Option.some.injEq, Addr.mk.injEq, and_true] at e
    subst e
    refine ⟨hS w hF, by simp, ?_⟩
    show owned _ _ ((oargs ops o a).take 1)
    rw [ht]; exact owned_alloc w [x] t
  · obtain ⟨b, rfl⟩ := hv
    have e0 : nextP (Clm.lit5 S) i ((Clm.lit5 S).K (oargs ops o a) (.slice (some ⟨b, 0, none⟩) 1 1)) ps = (i, (Clm.lit5 S).K (oargs ops o a) (.slice (some ⟨b, 0, none⟩) 1 1)) :: ps := rfl
    show wpH P ops Q F T I l cs (i + 1) ks ((i, (Clm.lit5 S).K (oargs ops o a) (.slice (some ⟨b, 0, none⟩) 1 1)) :: ps) _
    have key : ∀ (l : List Oper) (cs : List GC) (I : World → Prop) (i : Nat) (ks ps ps' : List (Nat × (World → Prop))) (a : Act), (ps'.length = ps.length ∧ ∀ (n : Nat) (p p' : Nat × (World → Prop)), ps[n]? = some p → ps'[n]? = some p' → p.1 = p'.1 ∧ ∀ w, p'.2 w → p.2 w) → wpH P ops Q F T I l cs i ks ps a → wpH P ops Q F T I l cs i ks ps' a := by
      have dk : ∀ (o : Oper) (ps ps' : List (Nat × (World → Prop))) (w : World), (ps'.length = ps.length ∧ ∀ (n : Nat) (p p' : Nat × (World → Prop)), ps[n]? = some p → ps'[n]? = some p' → p.1 = p'.1 ∧ ∀ w, p'.2 w → p.2 w) → depK o ps' w → depK o ps w := by
        intro o ps
        induction ps with
        | nil => intro ps' w _ _; trivial
        | cons p ps ih =>
          intro ps' w hp hd
          cases ps' with
          | nil => have := hp.1; simp at this
          | cons p' ps' =>
            have h0 := hp.2 0 p p' rfl rfl
            have ht := ih ps' w ⟨by have := hp.1; simpa using this, fun n q q' h1 h2 => hp.2 (n + 1) q q' (by simpa using h1) (by simpa using h2)⟩ hd.2
            refine ⟨?_, ht⟩
            have h1 := hd.1
            rw [h0.1]
            cases hb : depB o p'.1 with
            | false => trivial
            | true => rw [hb] at h1; exact h0.2 w h1
      have ak : ∀ (ps ps' : List (Nat × (World → Prop))) (w : World), (ps'.length = ps.length ∧ ∀ (n : Nat) (p p' : Nat × (World → Prop)), ps[n]? = some p → ps'[n]? = some p' → p.1 = p'.1 ∧ ∀ w, p'.2 w → p.2 w) → allK ps' w → allK ps w := by
        intro ps
        induction ps with
        | nil => intro ps' w _ _; trivial
        | cons p ps ih =>
          intro ps' w hp hd
          cases ps' with
          | nil => have := hp.1; simp at this
          | cons p' ps' => exact ⟨(hp.2 0 p p' rfl rfl).2 w hd.1, ih ps' w ⟨by have := hp.1; simpa using this, fun n q q' h1 h2 => hp.2 (n + 1) q q' (by simpa using h1) (by simpa using h2)⟩ hd.2⟩
      intro l
      induction l with
      | nil =>
        intro cs I i ks ps ps' a hp h
        cases cs with
        | nil => exact fun w hi h1 h2 => h w hi h1 (ak ps ps' w hp h2)
        | cons c cs => exact h.elim
      | cons o l ih =>
        intro cs I i ks ps ps' a hp h
        cases cs with
        | nil => exact h.elim
        | cons g cs =>
          refine ⟨?_, fun v hv => ih cs _ _ _ _ _ _ ?_ (h.2 v hv)⟩
          · rcases h.1 with ⟨k1, km, k0, k4, k5, k3, k9⟩ | hskip
            · exact .inl ⟨k1, km, k0, k4, fun hm w hi h1 h2 => k5 hm w hi h1 (dk _ _ _ w hp h2), fun hm w hi h1 h2 => k3 hm w hi h1 (dk _ _ _ w hp h2), fun hm => ⟨(k9 hm).1, fun w hF h2 => (k9 hm).2 w hF (dk _ _ _ w hp h2)⟩⟩
            · exact .inr hskip
          · unfold nextP
            split
            · refine ⟨by simp [hp.1], fun n p p' h1 h2 => ?_⟩
              cases n with
              | zero => simp at h1 h2; subst h1; subst h2; exact ⟨rfl, fun w h => h⟩
              | succ n => exact hp.2 n p p' (by simpa using h1) (by simpa using h2)
            · exact hp
    refine key l cs I (i + 1) ks ((i, fun w => owned w b [x]) :: ps) _ _ ⟨by simp, fun n p p' h1 h2 => ?_⟩ (h b)
    cases n with
    | zero =>
      simp only [List.getElem?_cons_zero, Option.some.injEq] at h1 h2
      subst h1; subst h2
      refine ⟨rfl, fun w hK => ?_⟩
      have h9 := (hK b rfl).2.2
      rw [ht] at h9
      exact h9
    | succ n =>
      simp only [List.getElem?_cons_succ] at h1 h2
      rw [h1] at h2
      simp only [Option.some.injEq] at h2
      subst h2
      exact ⟨rfl, fun w h => h⟩
end
/-- Two rows and a variable may have turned. -/
structure G3 (w0 : World) (g g' : Option Nat) (b : Nat) (u : World) : Prop where
  os : u.os = w0.os
  tape : u.tape = w0.tape
  output : u.output = w0.output
  size : w0.heap.size ≤ u.heap.size
  block : ∀ k, k < w0.heap.size → some k ≠ g → some k ≠ g' → k ≠ b → u.heap[k]? = w0.heap[k]?
theorem G3.later {w0 : World} {g g' : Option Nat} {b : Nat} {u v : World} (h : G3 w0 g g' b u) (hb : Below u.heap.size u v) : G3 w0 g g' b v :=
  ⟨hb.os.trans h.os, hb.tape.trans h.tape, hb.output.trans h.output, Nat.le_trans h.size hb.size, fun k hk h1 h2 h3 => (hb.block k (Nat.lt_of_lt_of_le hk h.size)).trans (h.block k hk h1 h2 h3)⟩
theorem G3.two {w0 : World} {g g' : Option Nat} {b : Nat} {u v : World} (h : w0.grownBy u g) (h2 : u.grownBy v g') : G3 w0 g g' b v :=
  ⟨h2.os.trans h.os, h2.tape.trans h.tape, h2.output.trans h.output, Nat.le_trans h.size h2.size, fun k hk h1 h3 _ => (h2.block k (Nat.lt_of_lt_of_le hk h.size) h3).trans (h.block k hk h1)⟩
theorem G3.put {w0 : World} {g g' : Option Nat} {b : Nat} {u : World} (h : G3 w0 g g' b u) (j : Nat) (x : Value) : G3 w0 g g' b (u.setCell ⟨b, j, none⟩ x) :=
  ⟨h.os, h.tape, h.output, by rw [World.size_setCell]; exact h.size, fun k hk h1 h2 h3 => (Below.heap_setCell _ _ _ _ (fun e => h3 e)).trans (h.block k hk h1 h2 h3)⟩
theorem G3.below {w0 : World} {g g' : Option Nat} {b B : Nat} {u : World} (h : G3 w0 g g' b u) (h0 : B ≤ w0.heap.size) (hg : ∀ k, g = some k → B ≤ k) (hg' : ∀ k, g' = some k → B ≤ k) (hb : B ≤ b) : Below B w0 u :=
  ⟨h.os, h.tape, h.output, h.size, fun k hk => h.block k (by omega) (fun e => by have := hg k e.symm; omega) (fun e => by have := hg' k e.symm; omega) (by omega)⟩
/-- A turning operation that gives a slice, with what is told of it and of what it waited for. -/
def Clm.rowT (n : Nat) (C : List Value → Value → World → Prop) (hC : ∀ x v w w', C x v w → Below w.heap.size w w' → C x v w') : Clm := ⟨3, fun _ v => ∃ q c, v = .slice q n c, C, fun _ => ⟨_, none, 0, rfl⟩, hC, fun h => nomatch h⟩
def Sz (S : Nat) (w w' : World) : Prop := w.heap.size ≤ w'.heap.size ∧ TS S w w'
theorem sz_grown {S : Nat} {w w' : World} {g : Option Nat} (h : w.grownBy w' g) (hg : ∀ k, g = some k → k < S) : Sz S w w' := ⟨h.size, fun k h1 h2 => h.block k h2 (fun e => by have := hg k e.symm; omega)⟩
theorem sz_put {S b j : Nat} {w : World} {x : Value} (hb : b < S) : Sz S w (w.setCell ⟨b, j, none⟩ x) := ⟨by rw [World.size_setCell]; exact Nat.le_refl _, fun k h1 h2 => Below.heap_setCell _ _ _ _ (fun e => by have e : k = b := e; omega)⟩
/-- An append gives a slice of such a row. -/
def AppRun (o : Oper) (a : Act) (B : Nat) (t : TypeId) (v : Value) (n : Nat) (vs : List Value) (w : World) : Prop := ∃ q c w', (execOp a.eval o).run Try.prog w = .ok (.value (.slice q n c)) w' ∧ w.grownBy w' v.ownBlock ∧ Row.at ⟨t, .slice q n c, n, vs⟩ B w' ∧ ((Value.slice q n c).ownBlock = v.ownBlock ∨ (Value.slice q n c).ownBlock = some w.heap.size)
theorem appRunF {B : Nat} {xs : List Nat} {v : Value} {b r : Nat} {w : World} {o : Oper} {a : Act} {s x : Operand} (ho : o.op = .call { callee := .builtin .append, args := #[s, x], argTypes := #[22, 22] }) (hs : a.eval s = v) (hx : a.eval x = .slice (some ⟨b, 0, .none⟩) 1 1) (hO : OF B w v xs) (hc : w.cell? ⟨b, 0, .none⟩ = some (.float .f32 r)) (hn : xs.length < 1048576) (hB : B ≤ w.heap.size) : AppRun o a B 33 v (xs.length + 1) ((xs ++ [r]).map (Value.float .f32)) w := by
  obtain ⟨i0, hi, hz0, hz1, hz2⟩ := info_parts Try.infoF32
  obtain ⟨v', w', hr, h2, h3, h4, h5⟩ := run_append_own_at (P := Try.prog) w B 22 o.type 33 i0 (.float .f32 0) 1 4 Try.underlying22 hi hz0 hz1 hz2 rfl (by decide) v xs.length (xs.map (Value.float .f32)) hO ⟨b, 0, .none⟩ 1 1 [.float .f32 r] rfl
    (by
      intro j u hj
      match j, hj with
      | 0, hj => simp at hj; subst hj; simpa [Addr.add] using hc
      | j + 1, hj => simp at hj) (by intro u hu; simp at hu; subst hu; rfl) (by unfold maxLen; omega) (by omega) hB
  have hO' : OF B w' v' (xs ++ [r]) := by unfold OF; simpa using h2
  obtain ⟨q, c, rfl⟩ := hO'.shape
  simp only [List.length_append, List.length_cons, List.length_nil, Nat.zero_add] at h5 h2 hr
  refine ⟨q, c, w', ?_, h3, ?_, h5⟩
  · unfold execOp
    simp only [ho, resolve, invoke, builtin, Sem.run_bind, Sem.run_pure, Result.andThen_ok, List.map_toArray, List.map_cons, List.map_nil, hs, hx, hr]
  · show World.ownsRow _ _ _ _ _ _ _
    simpa using h2
theorem appRunB {B : Nat} {xs : List Bool} {v : Value} {b : Nat} {r : Bool} {w : World} {o : Oper} {a : Act} {s x : Operand} (ho : o.op = .call { callee := .builtin .append, args := #[s, x], argTypes := #[23, 23] }) (hs : a.eval s = v) (hx : a.eval x = .slice (some ⟨b, 0, .none⟩) 1 1) (hO : OL B w v xs) (hc : w.cell? ⟨b, 0, .none⟩ = some (.bool r)) (hn : xs.length < 1048576) (hB : B ≤ w.heap.size) : AppRun o a B 4 v (xs.length + 1) ((xs ++ [r]).map Value.bool) w := by
  obtain ⟨i0, hi, hz0, hz1, hz2⟩ := info_parts Try.infoBool
  obtain ⟨v', w', hr, h2, h3, h4, h5⟩ := run_append_own_at (P := Try.prog) w B 23 o.type 4 i0 (.bool false) 1 1 Try.underlying23 hi hz0 hz1 hz2 rfl (by decide) v xs.length (xs.map Value.bool) hO ⟨b, 0, .none⟩ 1 1 [.bool r] rfl
    (by
      intro j u hj
      match j, hj with
      | 0, hj => simp at hj; subst hj; simpa [Addr.add] using hc
      | j + 1, hj => simp at hj) (by intro u hu; simp at hu; subst hu; rfl) (by unfold maxLen; omega) (by omega) hB
  have hO' : OL B w' v' (xs ++ [r]) := by unfold OL; simpa using h2
  obtain ⟨q, c, rfl⟩ := hO'.shape
  simp only [List.length_append, List.length_cons, List.length_nil, Nat.zero_add] at h5 h2 hr
  refine ⟨q, c, w', ?_, h3, ?_, h5⟩
  · unfold execOp
    simp only [ho, resolve, invoke, builtin, Sem.run_bind, Sem.run_pure, Result.andThen_ok, List.map_toArray, List.map_cons, List.map_nil, hs, hx, hr]
  · show World.ownsRow _ _ _ _ _ _ _
    simpa using h2
section
variable {ops : Array Oper} {Q : Exit → Act → World → Prop} {F I : World → Prop} {l : List Oper} {cs : List GC} {i : Nat} {ks ps : List (Nat × (World → Prop))} {a : Act} {o : Oper} {S B b : Nat} {W0 : World}
/-- The first append. -/
theorem wpH_row1 {f : Nat → Row} {cl : List Value} {j : Nat} {v : Value} (t : TypeId) (n : Nat) (vs : List Value) (hRV : RV B W0 b cl f) (hcl : 0 < cl.length) (hj : j < 4) (hf : (f j).v = v) (hw : Region.wanted o (yielded ops a.tmps) = true)
    (hr : ∀ w, Below W0.heap.size W0 w → RV B w b cl f → depK o ps w → AppRun o a B t v n vs w)
    (h : ∀ q c, wpH Try.prog ops Q F (Sz W0.heap.size) (fun u => W0.grownBy u v.ownBlock) l cs (i + 1) [(i, fun w => RV B w b cl (upd f j ⟨t, .slice q n c, n, vs⟩))] ps (a.put o.dst (.slice q n c))) :
    wpH Try.prog ops Q F (Sz W0.heap.size) (fun u => Below W0.heap.size W0 u) (o :: l) (⟨Clm.rowT n (fun _ u w => RV B w b cl (upd f j ⟨t, u, n, vs⟩)) (fun _ _ _ _ h hb => RV.later h hb), fun u => W0.grownBy u v.ownBlock, fun _ _ h hb => grown_later h hb⟩ :: cs) i ks ps a := by
  refine wpH_turnE (Clm.rowT n _ _) rfl _ _ hw (fun w hi hk hp => ?_) ?_
  · have hrv := hRV.later hi
    obtain ⟨q, c, w', e, hg, hat, hv⟩ := hr w hi hrv hp
    rw [e]
    have hlt : ∀ k, v.ownBlock = some k → k < W0.heap.size := fun k hk => (World.ownsRow.lt (hRV.2.2.1 j hj) k (by rw [hf]; exact hk)).2
    exact ⟨⟨below_grown2 hi hg, sz_grown hg hlt⟩, ⟨q, c, rfl⟩, hrv.grow hcl hj (by rw [hf]; exact hg) hat (by rw [hf]; exact hv)⟩
  · rintro u ⟨q, c, rfl⟩
    exact h q c
/-- The second append. -/
theorem wpH_row2 {f : Nat → Row} {cl : List Value} {j j2 : Nat} {v v2 : Value} (d : Nat) (t : TypeId) (n : Nat) (vs : List Value) (t2 : TypeId) (n2 : Nat) (vs2 : List Value) {v1 : Value} (hRV : RV B W0 b cl f) (hcl : 0 < cl.length) (hj : j < 4) (hj2 : j2 < 4) (hne : j2 ≠ j) (hf : (f j2).v = v2) (hd : (oargs ops o a).getD d undef = v1) (hw : Region.wanted o (yielded ops a.tmps) = true)
    (hk : ∀ w, depK o ks w → RV B w b cl (upd f j ⟨t, v1, n, vs⟩))
    (hr : ∀ w, W0.heap.size ≤ w.heap.size → RV B w b cl (upd f j ⟨t, v1, n, vs⟩) → depK o ps w → AppRun o a B t2 v2 n2 vs2 w)
    (h : ∀ q c, wpH Try.prog ops Q F (Sz W0.heap.size) (fun u => G3 W0 v.ownBlock v2.ownBlock b u) l cs (i + 1) [(i, fun w => RV B w b cl (upd (upd f j ⟨t, v1, n, vs⟩) j2 ⟨t2, .slice q n2 c, n2, vs2⟩))] ps (a.put o.dst (.slice q n2 c))) :
    wpH Try.prog ops Q F (Sz W0.heap.size) (fun u => W0.grownBy u v.ownBlock) (o :: l) (⟨Clm.rowT n2 (fun x u w => RV B w b cl (upd (upd f j ⟨t, x.getD d undef, n, vs⟩) j2 ⟨t2, u, n2, vs2⟩)) (fun _ _ _ _ h hb => RV.later h hb), fun u => G3 W0 v.ownBlock v2.ownBlock b u, fun _ _ h hb => h.later hb⟩ :: cs) i ks ps a := by
  refine wpH_turnE (Clm.rowT n2 _ _) rfl _ _ hw (fun w hi hk0 hp => ?_) ?_
  · have hrv := hk w hk0
    obtain ⟨q, c, w', e, hg, hat, hv⟩ := hr w hi.size hrv hp
    have e2 : (upd f j ⟨t, v1, n, vs⟩ j2).v = v2 := by unfold upd; rw [if_neg hne]; exact hf
    rw [e]
    have hlt : ∀ k, v2.ownBlock = some k → k < W0.heap.size := fun k hk => (World.ownsRow.lt (hRV.2.2.1 j2 hj2) k (by rw [hf]; exact hk)).2
    refine ⟨⟨G3.two hi hg, sz_grown hg hlt⟩, ⟨q, c, rfl⟩, ?_⟩
    show RV B w' b cl (upd (upd f j ⟨t, (oargs ops o a).getD d undef, n, vs⟩) j2 ⟨t2, .slice q n2 c, n2, vs2⟩)
    rw [hd]
    exact hrv.grow hcl hj2 (by rw [e2]; exact hg) hat (by rw [e2]; exact hv)
  · rintro u ⟨q, c, rfl⟩
    have := h q c
    show wpH Try.prog ops Q F _ _ l cs (i + 1) [(i, fun w => RV B w b cl (upd (upd f j ⟨t, (oargs ops o a).getD d undef, n, vs⟩) j2 ⟨t2, .slice q n2 c, n2, vs2⟩))] ps _
    rw [hd]; exact this
/-- A store of a slice into the variable; what is told of it is told of what it waited for. -/
theorem wpH_putR {g g' : Option Nat} {ty : TypeId} {X Y : Operand} {j : Nat} {qs : Option Addr} {ns cc : Nat} (M : List Value → World → Prop) (hM : Keeps M) {x0 : List Value} (hox : oargs ops o a = x0) (ho : o.op = .store ty X Y) (hx : a.eval X = .pointer (some ⟨b, j, none⟩)) (hy : a.eval Y = .slice qs ns cc) (hty : ∀ w, Sem.run Try.prog (sizeOf ty) w = .ok 1 w) (hb : b < W0.heap.size) (hw : Region.wanted o (yielded ops a.tmps) = true)
    (hc : ∀ w, depK o ks w → ∃ u, w.cell? ⟨b, j, none⟩ = some u ∧ w.frozen? ⟨b, j, none⟩ = false) (hk : ∀ w, depK o ks w → M x0 (w.setCell ⟨b, j, none⟩ (.slice qs ns cc)))
    (h : wpH Try.prog ops Q F (Sz W0.heap.size) (fun u => G3 W0 g g' b u) l cs (i + 1) [(i, M x0)] ps (a.put o.dst undef)) :
    wpH Try.prog ops Q F (Sz W0.heap.size) (fun u => G3 W0 g g' b u) (o :: l) (⟨Clm.putM M hM, fun u => G3 W0 g g' b u, fun _ _ h hb => h.later hb⟩ :: cs) i ks ps a := by
  refine wpH_turnE (Clm.putM M hM) rfl _ _ hw (fun w hi hk0 hp => ?_) (fun u hu => ?_)
  · obtain ⟨old, c1, c2⟩ := hc w hk0
    have hr : (execOp a.eval o).run Try.prog w = .ok .skip (w.setCell ⟨b, j, none⟩ (.slice qs ns cc)) := by
      unfold execOp
      simp only [ho, hx, hy]
      go_simp
    rw [hr]
    exact ⟨⟨hi.put j _, sz_put hb⟩, rfl, by show M (oargs ops o a) _; rw [hox]; exact hk w hk0⟩
  · have hu : u = undef := hu
    subst hu
    show wpH Try.prog ops Q F _ _ l cs (i + 1) [(i, M (oargs ops o a))] ps _
    rw [hox]; exact h
end
end Go.Proofs.Ythdmamcbceblpaa
