/-
  Rods that are handed back with numbers, in plans with memory that turns; marks in both. No condition but what each contract says.
-/
import Derived.Test.YtgkcfeaknehopaaPrRun
set_option linter.unusedSimpArgs false
set_option linter.unusedVariables false
set_option linter.unusedSectionVars false
namespace Go.Proofs.Ytgkcfeaknehopaa
open Go Go.RowKit
open Go.ChangeShapes Go.WideShapes Go.ChangeAt Go.RowKit Go.Joins
/-- A rod in a variable and numbers: all own, all apart. -/
def RLat (B : Nat) (R : Rd) (L : List Nat) (u : World) (b : Nat) (m : RL) (q : Option Addr) (c : Nat) : Prop := ((B ≤ b ∧ owned u b [.slice m.p1 R.a.length m.c1, .slice m.p2 R.b.length m.c2, .slice m.p3 R.c.length m.c3, .slice m.p4 R.d.length m.c4]) ∧ ∃ cs, u.heap[b]? = some (.cells cs 29)) ∧ RdA B u R m ∧ (∃ ys, OF B u (.slice q L.length c) ys ∧ ys.map (cn .f32) = L) ∧ ApS q m
theorem RLat.later {B : Nat} {R : Rd} {L : List Nat} {u w' : World} {b : Nat} {m : RL} {q : Option Addr} {c : Nat} (h : RLat B R L u b m q c) (hb : Below u.heap.size u w') : RLat B R L w' b m q c := by
  obtain ⟨⟨⟨h1, h2⟩, cs, h3⟩, h4, ⟨ys, h5, h6⟩, h7⟩ := h
  exact ⟨⟨⟨h1, h2.later hb⟩, cs, (hb.block b (Array.getElem?_eq_some_iff.1 h3).1).trans h3⟩, h4.later hb, ⟨ys, h5.later hb, h6⟩, h7⟩
def rlM (B : Nat) (R : Rd) (L : List Nat) (bb : Bool) (x : List Value) (u : World) : Prop := ∀ b m q c, Value.pointer (some ⟨b, 0, none⟩) ∈ x → Value.tuple #[rdV R m, .slice q L.length c, .bool bb] ∈ x → RLat B R L u b m q c
theorem rlM_keeps (B : Nat) (R : Rd) (L : List Nat) (bb : Bool) : Keeps (rlM B R L bb) := fun x w w' h hb b m q c h1 h2 => (h b m q c h1 h2).later hb
/-- The call that hands back a rod and numbers. -/
def rlK (B : Nat) (R : Rd) (L : List Nat) (bb : Bool) (v : Value) (w : World) : Prop := ∀ m q c, v = .tuple #[rdV R m, .slice q L.length c, .bool bb] → RdA B w R m ∧ (∃ ys, OF B w (.slice q L.length c) ys ∧ ys.map (cn .f32) = L) ∧ ApS q m
def Clm.rodL (B : Nat) (R : Rd) (L : List Nat) (bb : Bool) : Clm := ⟨1, fun _ v => ∃ m q c, v = .tuple #[rdV R m, .slice q L.length c, .bool bb], fun _ v w => rlK B R L bb v w, fun _ => ⟨_, nilRL, none, 0, rfl⟩,
  fun _ v w w' h hb m q c e => by
    obtain ⟨h1, ⟨ys, h2, h3⟩, h4⟩ := h m q c e
    exact ⟨h1.later hb, ⟨ys, h2.later hb, h3⟩, h4⟩, fun h => nomatch h⟩
/-- An own rod. -/
def Clm.rodO (B : Nat) (R : Rd) : Clm := ⟨1, fun _ v => ∃ m, v = rdV R m, fun _ v w => ∀ m, v = rdV R m → RdA B w R m, fun _ => ⟨_, nilRL, rfl⟩, fun _ v w w' h hb m e => (h m e).later hb, fun h => nomatch h⟩
section
variable {P : Program} {ops : Array Oper} {Q : Exit → Act → World → Prop} {F I : World → Prop} {l : List Oper} {cs : List GC} {i : Nat} {ks : List (Nat × (World → Prop))} {a : Act} {o : Oper}
theorem wpG_callRL {R : Rd} {L : List Nat} {b : Bool} (B : Nat) (hw : Region.wanted o (yielded ops a.tmps) = true) {f : FuncId} {args : Array Value} (he : ∀ w, (execOp a.eval o).run P w = .ok (.enter f args) w)
    (hB : ∀ w, I w → B ≤ w.heap.size) (hc : ∀ w, I w → depK o ks w → Calls P f args w (BRL w R L b))
    (h : ∀ m q c, wpG P ops Q F I l cs (i + 1) ((i, rlK B R L b (.tuple #[rdV R m, .slice q L.length c, .bool b])) :: ks) (a.put o.dst (.tuple #[.agg #[.slice m.p1 R.a.length m.c1, .slice m.p2 R.b.length m.c2, .slice m.p3 R.c.length m.c3, .slice m.p4 R.d.length m.c4], .slice q L.length c, .bool b]))) : wpG P ops Q F I (o :: l) (GC.of (Clm.rodL B R L b) :: cs) i ks a := by
  refine wpG_one (Clm.rodL B R L b) rfl hw (fun w hi hk => ?_) ?_
  · rw [he w]
    refine Calls.mono (hc w hi hk) ?_
    rintro e w' ⟨m, q, c, ys, rfl, hbl, hX, hO, hm, ha⟩
    have hl : ys.length = L.length := by rw [← hm, List.length_map]
    rw [hl] at hO ⊢
    refine ⟨_, rfl, hbl, ⟨m, q, c, rfl⟩, fun m' q' c' e => ?_⟩
    have e1 : rdV R m = rdV R m' ∧ q = q' ∧ c = c' := by
      have h2 : Value.tuple #[rdV R m, .slice q L.length c, .bool b] = .tuple #[rdV R m', .slice q' L.length c', .bool b] := e
      simp only [Value.tuple.injEq, Array.mk.injEq, List.cons.injEq, Value.slice.injEq, and_true, true_and] at h2
      exact h2
    rw [← rdV_inj e1.1, ← e1.2.1, ← e1.2.2]
    exact ⟨hX.ra (hB w hi), ⟨ys, hO.base (hB w hi), hm⟩, ha⟩
  · rintro v ⟨m, q, c, rfl⟩; exact h m q c
theorem wpG_callRO {R : Rd} (B : Nat) (hw : Region.wanted o (yielded ops a.tmps) = true) {f : FuncId} {args : Array Value} (he : ∀ w, (execOp a.eval o).run P w = .ok (.enter f args) w)
    (hB : ∀ w, I w → B ≤ w.heap.size) (hc : ∀ w, I w → depK o ks w → Calls P f args w (fun e w' => ∃ m, e = .returned (.agg #[.slice m.p1 R.a.length m.c1, .slice m.p2 R.b.length m.c2, .slice m.p3 R.c.length m.c3, .slice m.p4 R.d.length m.c4]) ∧ Below w.heap.size w w' ∧ RdX w.heap.size w'.heap.size w' R m))
    (h : ∀ m, wpG P ops Q F I l cs (i + 1) ((i, fun w => ∀ u, rdV R m = rdV R u → RdA B w R u) :: ks) (a.put o.dst (.agg #[.slice m.p1 R.a.length m.c1, .slice m.p2 R.b.length m.c2, .slice m.p3 R.c.length m.c3, .slice m.p4 R.d.length m.c4]))) : wpG P ops Q F I (o :: l) (GC.of (Clm.rodO B R) :: cs) i ks a := by
  refine wpG_one (Clm.rodO B R) rfl hw (fun w hi hk => ?_) ?_
  · rw [he w]
    refine Calls.mono (hc w hi hk) ?_
    rintro e w' ⟨m, rfl, hbl, hX⟩
    refine ⟨_, rfl, hbl, ⟨m, rfl⟩, fun u e => ?_⟩
    have e1 : rdV R m = rdV R u := e
    rw [← rdV_inj e1]
    exact hX.ra (hB w hi)
  · rintro v ⟨m, rfl⟩; exact h m
theorem wpG_callV (v : Value) (hw : Region.wanted o (yielded ops a.tmps) = true) {f : FuncId} {args : Array Value} (he : ∀ w, (execOp a.eval o).run P w = .ok (.enter f args) w)
    (hc : ∀ w, I w → depK o ks w → Calls P f args w (BV w v)) (h : wpG P ops Q F I l cs (i + 1) ((i, fun _ => True) :: ks) (a.put o.dst v)) : wpG P ops Q F I (o :: l) (GC.of (Clm.one v) :: cs) i ks a := by
  refine wpG_one (Clm.one v) rfl hw (fun w hi hk => ?_) fun u hu => ?_
  · rw [he w]
    refine Calls.mono (hc w hi hk) ?_
    rintro e w' ⟨rfl, hbl⟩
    exact ⟨_, rfl, hbl, rfl, trivial⟩
  · have hu : u = v := hu
    subst hu; exact h
theorem wpG_varT {B : Nat} (hB : ∀ w, I w → B ≤ w.heap.size) (xs : List Value) (t : TypeId) (hw : Region.wanted o (yielded ops a.tmps) = true) (h1 : ∀ w, (execOp a.eval o).run P w = .ok (.value (.pointer (some ⟨w.heap.size, 0, none⟩))) (w.alloc (.cells xs.toArray t)))
    (h : ∀ b, wpG P ops Q F I l cs (i + 1) ((i, vtK B xs t (.pointer (some ⟨b, 0, none⟩))) :: ks) (a.put o.dst (.pointer (some ⟨b, 0, none⟩)))) : wpG P ops Q F I (o :: l) (GC.of (Clm.varT B xs t) :: cs) i ks a := by
  refine wpG_one (Clm.varT B xs t) rfl hw (fun w hi hk => ?_) ?_
  · rw [h1 w]
    refine ⟨(Below.refl _ _).alloc (Nat.le_refl _) _, ⟨_, rfl⟩, ?_⟩
    intro b e
    simp only [Value.pointer.injEq, Option.some.injEq, Addr.mk.injEq, and_true] at e
    subst e
    exact ⟨⟨hB w hi, owned_alloc w xs t⟩, heap_alloc_new w _⟩
  · rintro v ⟨b, rfl⟩
    exact h b
/-- A store of a struct into a variable of the region's own: of all that it waited for it tells M anew. -/
theorem wpG_putD {ty : TypeId} {X Y : Operand} {b : Nat} {vs : Array Value} (olds : List Value) (M : List Value → World → Prop) (hM : Keeps M) (I' : World → Prop) (hI : ∀ w w', I' w → Below w.heap.size w w' → I' w') {x0 : List Value} (hox : oargs ops o a = x0) (ho : o.op = .store ty X Y) (hx : a.eval X = .pointer (some ⟨b, 0, none⟩)) (hy : a.eval Y = .agg vs) (hn : olds.length = vs.size)
    (hi : (P.info? ty).map (·.size) = some vs.size) (h2 : vs.toList.all (·.oneCell') = true) (hw : Region.wanted o (yielded ops a.tmps) = true) (hk : ∀ w, I w → depK o ks w → owned w b olds) (hI' : ∀ w, I w → depK o ks w → I' (w.setCells b 0 vs.toList) ∧ M x0 (w.setCells b 0 vs.toList))
    (h : wpG P ops Q F I' l cs (i + 1) [(i, M x0)] (a.put o.dst undef)) : wpG P ops Q F I (o :: l) (⟨Clm.putM M hM, I', hI⟩ :: cs) i ks a := by
  have h1 : vs.all (·.oneCell') = true := Array.all_eq_true_iff_forall_mem.2 fun v hv => List.all_eq_true.1 h2 v (by simpa using hv)
  refine wpG_turnE (Clm.putM M hM) rfl I' hI hw (fun w hi' hkw => ?_) (fun u hu => ?_)
  · have hown := hk w hi' hkw
    have ht : w.there b 0 vs.size := fun j hj => by
      have hj' : j < olds.length := by omega
      have := hown j olds[j] (List.getElem?_eq_getElem hj')
      simp only [Nat.zero_add]
      exact ⟨by rw [this.1]; rfl, this.2⟩
    have hr : (execOp a.eval o).run P w = .ok .skip (w.setCells b 0 vs.toList) := by
      unfold execOp
      simp only [ho, hx, hy, Instr.storeAt, Instr.sureAddr, Sem.run_bind, Sem.run_pure, Result.andThen_ok, run_storeVar_mid w b 0 ty vs ht hi h1]
    rw [hr]
    obtain ⟨g1, g2⟩ := hI' w hi' hkw
    exact ⟨g1, rfl, by show M (oargs ops o a) _; rw [hox]; exact g2⟩
  · have hu : u = undef := hu
    subst hu
    show wpG P ops Q F I' l cs (i + 1) [(i, M (oargs ops o a))] _
    rw [hox]; exact h
end
/-- The store of the rod into its variable. -/
theorem rl_put {B : Nat} {R : Rd} {L : List Nat} {bb : Bool} {u : World} {b : Nat} {m : RL} {q : Option Addr} {c : Nat} (h1 : rlK B R L bb (.tuple #[rdV R m, .slice q L.length c, .bool bb]) u) (h2 : vtK B [.slice none 0 0, .slice none 0 0, .slice none 0 0, .slice none 0 0] 29 (.pointer (some ⟨b, 0, none⟩)) u) :
    RLat B R L (u.setCells b 0 [.slice m.p1 R.a.length m.c1, .slice m.p2 R.b.length m.c2, .slice m.p3 R.c.length m.c3, .slice m.p4 R.d.length m.c4]) b m q c := by
  obtain ⟨k1, ⟨ys, k2, k3⟩, k4⟩ := h1 m q c rfl
  obtain ⟨⟨g1, g2⟩, g3⟩ := h2 b rfl
  refine ⟨⟨⟨g1, owned_stored g2⟩, setCells_type b _ _ _ u ⟨_, g3⟩⟩, k1.setCells g3 (by decide) _ _, ⟨ys, k2.kept (grown_setCells b _ 0 u) (k2.type g3 (by decide)), k3⟩, k4⟩
theorem rlM_put {B : Nat} {R : Rd} {L : List Nat} {bb : Bool} {u : World} {b : Nat} {m : RL} {q : Option Addr} {c : Nat} {x : List Value} (h1 : rlK B R L bb (.tuple #[rdV R m, .slice q L.length c, .bool bb]) u) (h2 : vtK B [.slice none 0 0, .slice none 0 0, .slice none 0 0, .slice none 0 0] 29 (.pointer (some ⟨b, 0, none⟩)) u)
    (hp : ∀ b', Value.pointer (some ⟨b', 0, none⟩) ∈ x → b' = b) (ht : ∀ m' q' c', Value.tuple #[rdV R m', .slice q' L.length c', .bool bb] ∈ x → m' = m ∧ q' = q ∧ c' = c) : rlM B R L bb x (u.setCells b 0 [.slice m.p1 R.a.length m.c1, .slice m.p2 R.b.length m.c2, .slice m.p3 R.c.length m.c3, .slice m.p4 R.d.length m.c4]) := by
  intro b' m' q' c' k1 k2
  obtain ⟨rfl, rfl, rfl⟩ := ht m' q' c' k2
  rw [hp b' k1]
  exact rl_put h1 h2
end Go.Proofs.Ytgkcfeaknehopaa
