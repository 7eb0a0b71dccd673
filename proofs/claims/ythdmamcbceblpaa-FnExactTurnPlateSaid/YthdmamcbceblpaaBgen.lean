/-
  What plans with memory that turns need of variables, stores and slices: general laws. No condition but what each law says.
-/
import Derived.Test.YthdmamcbceblpaaGap
import Derived.Test.YthdmamcbceblpaaApp
set_option linter.unusedSimpArgs false
set_option linter.unusedVariables false
set_option linter.unusedSectionVars false
namespace Go.Proofs.Ythdmamcbceblpaa
open Go Go.RowKit
def vtK (B : Nat) (xs : List Value) (t : TypeId) (v : Value) (w : World) : Prop := ∀ b, v = .pointer (some ⟨b, 0, none⟩) → (B ≤ b ∧ owned w b xs) ∧ w.heap[b]? = some (.cells xs.toArray t)
def Clm.varT (B : Nat) (xs : List Value) (t : TypeId) : Clm := ⟨1, fun _ v => ∃ b, v = .pointer (some ⟨b, 0, none⟩), fun _ v w => vtK B xs t v w, fun _ => ⟨_, 0, rfl⟩,
  fun _ v w w' h hb b e => ⟨⟨(h b e).1.1, (h b e).1.2.later hb⟩, (hb.block b (Array.getElem?_eq_some_iff.1 (h b e).2).1).trans (h b e).2⟩, fun h => nomatch h⟩
theorem grown_setCells (b : Nat) : ∀ (vs : List Value) (o : Nat) (w : World), w.grownBy (w.setCells b o vs) (some b)
  | [], _, w => World.grownBy.refl _ _
  | v :: r, o, w => World.grownBy.trans (b := w.setCell ⟨b, o, none⟩ v) ⟨rfl, rfl, rfl, by simp, fun k _ hk => Below.heap_setCell _ _ _ _ (fun e => hk (by rw [e]))⟩ (grown_setCells b r (o + 1) _)
theorem setCells_type (b : Nat) (t : TypeId) : ∀ (vs : List Value) (o : Nat) (w : World), (∃ cs, w.heap[b]? = some (.cells cs t)) → ∃ cs, (w.setCells b o vs).heap[b]? = some (.cells cs t)
  | [], _, _, h => h
  | v :: r, o, w, ⟨cs, h⟩ => setCells_type b t r (o + 1) _ ⟨_, heap_setCell_same w b o cs t v h⟩
structure K2 (w0 : World) (g : Option Nat) (b : Nat) (u : World) : Prop where
  os : u.os = w0.os
  tape : u.tape = w0.tape
  output : u.output = w0.output
  size : w0.heap.size ≤ u.heap.size
  block : ∀ k, k < w0.heap.size → some k ≠ g → k ≠ b → u.heap[k]? = w0.heap[k]?
theorem K2.later {w0 : World} {g : Option Nat} {b : Nat} {u v : World} (h : K2 w0 g b u) (hb : Below u.heap.size u v) : K2 w0 g b v :=
  ⟨hb.os.trans h.os, hb.tape.trans h.tape, hb.output.trans h.output, Nat.le_trans h.size hb.size, fun k hk h1 h2 => (hb.block k (Nat.lt_of_lt_of_le hk h.size)).trans (h.block k hk h1 h2)⟩
theorem grown_later {w0 : World} {g : Option Nat} {u v : World} (h : w0.grownBy u g) (hb : Below u.heap.size u v) : w0.grownBy v g :=
  ⟨hb.os.trans h.os, hb.tape.trans h.tape, hb.output.trans h.output, Nat.le_trans h.size hb.size, fun k hk h1 => (hb.block k (Nat.lt_of_lt_of_le hk h.size)).trans (h.block k hk h1)⟩
theorem below_grown2 {w0 : World} {g : Option Nat} {u v : World} (hb : Below w0.heap.size w0 u) (h : u.grownBy v g) : w0.grownBy v g :=
  ⟨h.os.trans hb.os, h.tape.trans hb.tape, h.output.trans hb.output, Nat.le_trans hb.size h.size, fun k hk h1 => (h.block k (Nat.lt_of_lt_of_le hk hb.size) h1).trans (hb.block k hk)⟩
theorem K2.of {w0 : World} {g : Option Nat} {b : Nat} {u : World} (h : w0.grownBy u g) (o : Nat) (vs : List Value) : K2 w0 g b (u.setCells b o vs) := by
  have h2 := grown_setCells b vs o u
  exact ⟨h2.os.trans h.os, h2.tape.trans h.tape, h2.output.trans h.output, Nat.le_trans h.size h2.size, fun k hk h1 h3 => (h2.block k (Nat.lt_of_lt_of_le hk h.size) (by simpa using h3)).trans (h.block k hk h1)⟩
theorem K2.below {w0 : World} {g : Option Nat} {b B : Nat} {u : World} (h : K2 w0 g b u) (h0 : B ≤ w0.heap.size) (hg : ∀ k, g = some k → B ≤ k) (hb : B ≤ b) : Below B w0 u :=
  ⟨h.os, h.tape, h.output, h.size, fun k hk => h.block k (by omega) (fun e => by have := hg k e.symm; omega) (by omega)⟩
theorem owned_kept {w w' : World} {b : Nat} {xs : List Value} {g : Option Nat} (h : owned w b xs) (hg : w.grownBy w' g) (hlt : b < w.heap.size) (hne : ∀ k, g = some k → k ≠ b) : owned w' b xs := by
  have e := hg.block b hlt (fun e => hne b e.symm rfl)
  exact fun k x hk => ⟨(World.cell?_of_block (a := ⟨b, k, none⟩) e).trans (h k x hk).1, (World.frozen?_of_block (a := ⟨b, k, none⟩) e).trans (h k x hk).2⟩
theorem OF.blk {B : Nat} {w w' : World} {u : Value} {xs : List Nat} (h : OF B w u xs) (hk : ∀ k, u.ownBlock = some k → w'.heap[k]? = w.heap[k]?) : OF B w' u xs := by
  unfold OF World.ownsRow at h ⊢
  refine ⟨h.1, ?_⟩
  rcases h.2 with h3 | ⟨g, c, cur, e, hb, hg', r⟩
  · exact .inl h3
  · exact .inr ⟨g, c, cur, e, hb, (hk g (by rw [e]; rfl)).trans hg', r⟩
theorem owned_blk {w w' : World} {b : Nat} {xs : List Value} (h : owned w b xs) (e : w'.heap[b]? = w.heap[b]?) : owned w' b xs :=
  fun k x hk => ⟨(World.cell?_of_block (a := ⟨b, k, none⟩) e).trans (h k x hk).1, (World.frozen?_of_block (a := ⟨b, k, none⟩) e).trans (h k x hk).2⟩
theorem calls_named {P : Program} {f : FuncId} {args : Array Value} {w : World} {Q : Ending → World → Prop} (h : ∀ W, W = w → Calls P f args W Q) : Calls P f args w Q := h w rfl
/-- Two slices lie apart. -/
def ApV (u v : Value) : Prop := ∀ k, u.ownBlock = some k → v.ownBlock ≠ some k
theorem OF.type {B : Nat} {w : World} {u : Value} {xs : List Nat} (h : OF B w u xs) {b : Nat} {cs : Array Value} {t : TypeId} (hb : w.heap[b]? = some (.cells cs t)) (ht : t ≠ 33) : u.ownBlock = none ∨ u.ownBlock ≠ some b := by
  unfold OF World.ownsRow at h
  rcases h.2 with ⟨h', _⟩ | ⟨g, cap, cur, h', _, hg, _⟩
  · exact .inl (by rw [h']; rfl)
  · refine .inr fun e => ?_
    rw [h'] at e
    have e2 : g = b := by simpa [Value.ownBlock] using e
    subst e2
    rw [hg] at hb
    simp only [Option.some.injEq, Obj.cells.injEq] at hb
    exact ht hb.2.1.symm
section
variable {P : Program} {ops : Array Oper} {Q : Exit → Act → World → Prop} {F I : World → Prop} {l : List Oper} {cs : List GC} {i : Nat} {ks : List (Nat × (World → Prop))} {a : Act} {o : Oper}
theorem wpG_callV (v : Value) (hw : Region.wanted o (yielded ops a.tmps) = true) {f : FuncId} {args : Array Value} (he : ∀ w, (execOp a.eval o).run P w = .ok (.enter f args) w)
    (hc : ∀ w, I w → depK o ks w → Calls P f args w (BV w v)) (h : wpG P ops Q F I l cs (i + 1) ((i, fun _ => True) :: ks) (a.put o.dst v)) : wpG P ops Q F I (o :: l) (GC.of (Clm.one v) :: cs) i ks a := by
  refine wpG_one (Clm.one v) rfl hw (fun w hi hk => ?_) fun u hu => ?_
  · rw [he w]
    refine Calls.mono (hc w hi hk) ?_
    rintro e w' ⟨rfl, hbl⟩
    exact ⟨_, rfl, hbl, rfl, trivial⟩
  · have hu : u = v := hu
    subst hu; exact h
theorem wpG_varT {B : Nat} (hB : ∀ w, I w → B ≤ w.heap.size) (xs : List Value) (t : TypeId) (hw : Region.wanted o (yielded ops a.tmps) = true) (h1 : ∀ w, (execOp a.eval o).run P w = .ok (.value (.pointer (some ⟨w.heap.size, 0, none⟩))) (w.alloc (.cells xs.toArray t)))
    (h : ∀ b, wpG P ops Q F I l cs (i + 1) ((i, vtK B xs t (.pointer (some ⟨b, 0, none⟩))) :: ks) (a.put o.dst (.pointer (some ⟨b, 0, none⟩)))) : wpG P ops Q F I (o :: l) (GC.of (Clm.varT B xs t) :: cs) i ks a := by
  refine wpG_one (Clm.varT B xs t) rfl hw (fun w hi hk => ?_) ?_
  · rw [h1 w]
    refine ⟨(Below.refl _ _).alloc (Nat.le_refl _) _, ⟨_, rfl⟩, ?_⟩
    intro b e
    simp only [Value.pointer.injEq, Option.some.injEq, Addr.mk.injEq, and_true] at e
    subst e
    exact ⟨⟨hB w hi, owned_alloc w xs t⟩, heap_alloc_new w _⟩
  · rintro v ⟨b, rfl⟩
    exact h b
theorem wpG_putD {ty : TypeId} {X Y : Operand} {b : Nat} {vs : Array Value} (olds : List Value) (M : List Value → World → Prop) (hM : Keeps M) (I' : World → Prop) (hI : ∀ w w', I' w → Below w.heap.size w w' → I' w') {x0 : List Value} (hox : oargs ops o a = x0) (ho : o.op = .store ty X Y) (hx : a.eval X = .pointer (some ⟨b, 0, none⟩)) (hy : a.eval Y = .agg vs) (hn : olds.length = vs.size)
    (hi : (P.info? ty).map (·.size) = some vs.size) (h2 : vs.toList.all (·.oneCell') = true) (hw : Region.wanted o (yielded ops a.tmps) = true) (hk : ∀ w, I w → depK o ks w → owned w b olds) (hI' : ∀ w, I w → depK o ks w → I' (w.setCells b 0 vs.toList) ∧ M x0 (w.setCells b 0 vs.toList))
    (h : wpG P ops Q F I' l cs (i + 1) [(i, M x0)] (a.put o.dst undef)) : wpG P ops Q F I (o :: l) (⟨Clm.putM M hM, I', hI⟩ :: cs) i ks a := by
  have h1 : vs.all (·.oneCell') = true := Array.all_eq_true_iff_forall_mem.2 fun v hv => List.all_eq_true.1 h2 v (by simpa using hv)
  refine wpG_turnE (Clm.putM M hM) rfl I' hI hw (fun w hi' hkw => ?_) (fun u hu => ?_)
  · have hown := hk w hi' hkw
    have ht : w.there b 0 vs.size := fun j hj => by
      have hj' : j < olds.length := by omega
      have := hown j olds[j] (List.getElem?_eq_getElem hj')
      simp only [Nat.zero_add]
      exact ⟨by rw [this.1]; rfl, this.2⟩
    have hr : (execOp a.eval o).run P w = .ok .skip (w.setCells b 0 vs.toList) := by
      unfold execOp
      simp only [ho, hx, hy, Instr.storeAt, Instr.sureAddr, Sem.run_bind, Sem.run_pure, Result.andThen_ok, run_storeVar_mid w b 0 ty vs ht hi h1]
    rw [hr]
    obtain ⟨g1, g2⟩ := hI' w hi' hkw
    exact ⟨g1, rfl, by show M (oargs ops o a) _; rw [hox]; exact g2⟩
  · have hu : u = undef := hu
    subst hu
    show wpG P ops Q F I' l cs (i + 1) [(i, M (oargs ops o a))] _
    rw [hox]; exact h
end
/-- An append to an own slice or to one without room: where the new one lies. -/
theorem run_appH (w : World) (ty : TypeId) {B : Nat} {g0 : Option Nat} {xs : List Nat} {v : Value} {b r : Nat} (hv : (OF B w v xs ∧ v.ownBlock = g0) ∨ (xs = [] ∧ g0 = none ∧ ∃ p, v = .slice p 0 0)) (hc : w.cell? ⟨b, 0, .none⟩ = some (.float .f32 r)) (hB : B ≤ w.heap.size) (hn : xs.length < 1048576) :
    ∃ v' w', (Builtin.append_ #[22, 22] ty #[v, .slice (some ⟨b, 0, .none⟩) 1 1]).run Try.prog w = .ok v' w' ∧ OF B w' v' (xs ++ [r]) ∧ w.grownBy w' g0 ∧ (v'.ownBlock = g0 ∨ v'.ownBlock = some w.heap.size) := by
  obtain ⟨i0, hi, hz0, hz1, hz2⟩ := info_parts Try.infoF32
  have hnews : ∀ j u, [Value.float .f32 r][j]? = some u → w.cell? ((⟨b, 0, .none⟩ : Addr).add j) = some u := by
    intro j u hj
    match j, hj with
    | 0, hj => simp at hj; subst hj; simpa [Addr.add] using hc
    | j + 1, hj => simp at hj
  have own : ∀ {xs : List Nat} {v : Value}, OF B w v xs → xs.length < 1048576 → ∃ v' w', (Builtin.append_ #[22, 22] ty #[v, .slice (some ⟨b, 0, .none⟩) 1 1]).run Try.prog w = .ok v' w' ∧ OF B w' v' (xs ++ [r]) ∧ w.grownBy w' v.ownBlock ∧ (v'.ownBlock = v.ownBlock ∨ v'.ownBlock = some w.heap.size) := by
    intro xs v hO hn
    obtain ⟨v', w', hr, h2, h3, h4, h5⟩ := run_append_own_at (P := Try.prog) w B 22 ty 33 i0 (.float .f32 0) 1 4 Try.underlying22 hi hz0 hz1 hz2 rfl (by decide) v xs.length (xs.map (Value.float .f32)) hO ⟨b, 0, .none⟩ 1 1 [.float .f32 r] rfl hnews (by intro u hu; simp at hu; subst hu; rfl) (by unfold maxLen; omega) (by omega) hB
    exact ⟨v', w', hr, by unfold OF; simpa using h2, h3, h5⟩
  rcases hv with ⟨hO, rfl⟩ | ⟨rfl, rfl, p, rfl⟩
  · exact own hO hn
  · cases p with
    | none => exact own (xs := []) (OF.nil0 B w) (by simp)
    | some ad =>
      have hr := run_append_grow (P := Try.prog) w 22 ty 33 i0 (.float .f32 0) Try.underlying22 hi hz0 ad 0 0 [] (by simp) (by intro j u hj; simp at hj) ⟨b, 0, .none⟩ 1 1 [.float .f32 r] (by rw [hz1]; rfl) hnews (by omega) (by decide) (by rw [Nat.zero_add, nextslicecap_zero (by decide), hz2]; decide)
      have hge := grownCap_ge w (0 + 1) 0 33
      have hcm : grownCap w (0 + 1) 0 33 ≤ maxLen := grownCap_le_maxLen w (0 + 1) 0 33 (by unfold maxLen; omega)
      refine ⟨_, _, hr, ?_, ⟨rfl, rfl, rfl, by simp, fun k hk _ => heap_alloc_old w.drew _ hk⟩, .inr rfl⟩
      unfold OF World.ownsRow
      refine ⟨by simp, .inr ⟨w.heap.size, _, _, rfl, hB, heap_alloc_new w.drew _, hge, hcm, ?_, ?_⟩⟩
      · simp only [Array.size_append, List.size_toArray, size_zeroCells]
        simp only [List.length_append, List.length_nil, List.length_cons, Value.cells]
        have : (#[Value.float .f32 0] : Array Value).size = 1 := rfl
        rw [this]
        omega
      · simp
theorem wpG_appH {ops : Array Oper} {Q : Exit → Act → World → Prop} {F I : World → Prop} {l : List Oper} {cs : List GC} {i : Nat} {ks : List (Nat × (World → Prop))} {a : Act} {o : Oper} (B S : Nat) (g0 : Option Nat) (xs : List Nat) (r : Nat) (I' : World → Prop) (hI : ∀ w w', I' w → Below w.heap.size w w' → I' w') {s x : Operand} {v : Value} {b : Nat}
    (ho : o.op = .call { callee := .builtin .append, args := #[s, x], argTypes := #[22, 22] }) (hs : a.eval s = v) (hx : a.eval x = .slice (some ⟨b, 0, .none⟩) 1 1)
    (hw : Region.wanted o (yielded ops a.tmps) = true) (hk : ∀ w, I w → depK o ks w → (((OF B w v xs ∧ v.ownBlock = g0) ∨ (xs = [] ∧ g0 = none ∧ ∃ p, v = .slice p 0 0)) ∧ w.cell? ⟨b, 0, .none⟩ = some (.float .f32 r)) ∧ B ≤ w.heap.size ∧ S ≤ w.heap.size) (hn : xs.length < 1048576)
    (hI' : ∀ w w', I w → w.grownBy w' g0 → I' w')
    (h : ∀ q c, wpG Try.prog ops Q F I' l cs (i + 1) [(i, fun w => appP B S g0 (xs ++ [r]) (.slice q (xs ++ [r]).length c) w)] (a.put o.dst (.slice q (xs ++ [r]).length c))) : wpG Try.prog ops Q F I (o :: l) (⟨Clm.appG B S g0 (xs ++ [r]), I', hI⟩ :: cs) i ks a := by
  refine wpG_turnE (Clm.appG B S g0 (xs ++ [r])) rfl I' hI hw (fun w hb hd => ?_) ?_
  · obtain ⟨⟨hO, hc⟩, hB, hS⟩ := hk w hb hd
    obtain ⟨v', w', hr, h2, h3, h5⟩ := run_appH w o.type hO hc hB hn
    have he : (execOp a.eval o).run Try.prog w = .ok (.value v') w' := by
      unfold execOp
      simp only [ho, resolve, invoke, builtin, Sem.run_bind, Sem.run_pure, Result.andThen_ok, List.map_toArray, List.map_cons, List.map_nil, hs, hx, hr]
    rw [he]
    exact ⟨hI' w w' hb h3, h2.shape, h2, h5.imp id fun h k hk => by rw [h] at hk; cases hk; exact hS⟩
  · rintro u ⟨q, c, rfl⟩
    exact h q c
/-- An own slice that a call hands back. -/
def Clm.ofG (B : Nat) (xs : List Nat) : Clm := ⟨1, fun _ v => ∃ q c, v = .slice q xs.length c, fun _ v w => OF B w v xs, fun _ => ⟨_, none, 0, rfl⟩, fun _ _ _ _ h hb => h.later hb, fun h => nomatch h⟩
theorem wpG_callO {P : Program} {ops : Array Oper} {Q : Exit → Act → World → Prop} {F I : World → Prop} {l : List Oper} {cs : List GC} {i : Nat} {ks : List (Nat × (World → Prop))} {a : Act} {o : Oper} (B : Nat) (xs : List Nat) (hw : Region.wanted o (yielded ops a.tmps) = true) {f : FuncId} {args : Array Value} (he : ∀ w, (execOp a.eval o).run P w = .ok (.enter f args) w)
    (hB : ∀ w, I w → B ≤ w.heap.size) (hc : ∀ w, I w → depK o ks w → Calls P f args w (fun e w' => ∃ u, e = .returned u ∧ Below w.heap.size w w' ∧ OF w.heap.size w' u xs))
    (h : ∀ q c, wpG P ops Q F I l cs (i + 1) ((i, fun w => OF B w (.slice q xs.length c) xs) :: ks) (a.put o.dst (.slice q xs.length c))) : wpG P ops Q F I (o :: l) (GC.of (Clm.ofG B xs) :: cs) i ks a := by
  refine wpG_one (Clm.ofG B xs) rfl hw (fun w hi hk => ?_) ?_
  · rw [he w]
    refine Calls.mono (hc w hi hk) ?_
    rintro e w' ⟨u, rfl, hbl, hO⟩
    exact ⟨_, rfl, hbl, hO.shape, hO.base (hB w hi)⟩
  · rintro v ⟨q, c, rfl⟩; exact h q c
/-- An empty slice written out: nothing is told of its block. -/
def Clm.lit0 : Clm := ⟨4, fun _ v => ∃ b, v = .slice (some ⟨b, 0, none⟩) 0 0, fun _ _ _ => True, fun _ => ⟨_, 0, rfl⟩, fun _ _ _ _ _ _ => trivial, fun _ _ _ _ => trivial⟩
theorem wpG_lit0 {P : Program} {ops : Array Oper} {Q : Exit → Act → World → Prop} {F I : World → Prop} {l : List Oper} {cs : List GC} {i : Nat} {ks : List (Nat × (World → Prop))} {a : Act} {o : Oper} {t : TypeId} (hw : Region.wanted o (yielded ops a.tmps) = true) (h1 : ∀ w, (execOp a.eval o).run P w = .ok (.value (.slice (some ⟨w.heap.size, 0, none⟩) 0 0)) (w.alloc (.cells #[] t)))
    (h : ∀ b, wpG P ops Q F I l cs (i + 1) ks (a.put o.dst (.slice (some ⟨b, 0, none⟩) 0 0))) : wpG P ops Q F I (o :: l) (GC.of Clm.lit0 :: cs) i ks a := by
  simp only [wpG]
  refine ⟨.inl ⟨hw, .inr (.inr (.inr rfl)), fun h => absurd (show (4 : Nat) = 0 from h) (by decide), fun _ => ⟨fun _ _ _ => trivial, fun w hF => ?_⟩, fun h => absurd (show (4 : Nat) = 1 from h) (by decide), fun h => absurd (show (4 : Nat) = 3 from h) (by decide)⟩, fun u hu => ?_⟩
  · rw [h1 w]; exact ⟨(Below.refl _ _).alloc (Nat.le_refl _) _, _, rfl⟩
  · obtain ⟨b, rfl⟩ := hu
    exact h b
end Go.Proofs.Ythdmamcbceblpaa
