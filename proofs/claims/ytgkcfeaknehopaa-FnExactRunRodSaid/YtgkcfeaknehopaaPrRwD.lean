/-
  Calls that hand back a rod and stores of a rod, in plans with memory that turns. No condition but what each law says.
-/
import Derived.Test.YtgkcfeaknehopaaPrRwB
import Derived.Test.YtgkcfeaknehopaaPrRdL
import Derived.Test.YtgkcfeaknehopaaPrPlanG
set_option linter.unusedSimpArgs false
set_option linter.unusedVariables false
set_option linter.unusedSectionVars false
namespace Go.Proofs.Ytgkcfeaknehopaa
open Go Go.RowKit
open Go.ChangeShapes Go.WideShapes Go.ChangeAt Go.RowKit Go.Joins
section
variable {P : Program} {ops : Array Oper} {Q : Exit → Act → World → Prop} {F I : World → Prop} {l : List Oper} {cs : List GC} {i : Nat} {ks : List (Nat × (World → Prop))} {a : Act} {o : Oper}
/-- A slice of numbers of these classes that a call has made while it turned memory. -/
def Clm.solv (B n : Nat) (L : List Nat) : Clm := ⟨3, fun _ v => ∃ q c, v = .slice q n c, fun _ v w => ∃ ys, OF B w v ys ∧ ys.map (cn .f32) = L ∧ ys.length = n, fun _ => ⟨_, none, 0, rfl⟩, fun _ _ _ _ h hb => by
    obtain ⟨ys, h1, h2⟩ := h
    exact ⟨ys, h1.later hb, h2⟩, fun h => nomatch h⟩
theorem wpG_solv {B n : Nat} {L : List Nat} (I' : World → Prop) (hI : ∀ w w', I' w → Below w.heap.size w w' → I' w') (hw : Region.wanted o (yielded ops a.tmps) = true) {f : FuncId} {args : Array Value} (he : ∀ w, (execOp a.eval o).run P w = .ok (.enter f args) w)
    (h1 : ∀ w, I w → depK o ks w → Calls P f args w (fun e w' => ∃ v, e = .returned v ∧ I' w' ∧ (∃ q c, v = .slice q n c) ∧ ∃ ys, OF B w' v ys ∧ ys.map (cn .f32) = L ∧ ys.length = n))
    (h : ∀ q c, wpG P ops Q F I' l cs (i + 1) [(i, fun w => ∃ ys, OF B w (.slice q n c) ys ∧ ys.map (cn .f32) = L ∧ ys.length = n)] (a.put o.dst (.slice q n c))) : wpG P ops Q F I (o :: l) (⟨Clm.solv B n L, I', hI⟩ :: cs) i ks a := by
  refine wpG_turnC (Clm.solv B n L) rfl I' hI hw he (fun w hi hk => ?_) ?_
  · exact Calls.mono (h1 w hi hk) fun e w' ⟨v, e1, h2, h3, h4⟩ => ⟨v, e1, h2, h3, h4⟩
  · rintro v ⟨q, c, rfl⟩
    exact h q c
theorem wpG_callRB {R : Rd} {b : Bool} (B : Nat) (hw : Region.wanted o (yielded ops a.tmps) = true) {f : FuncId} {args : Array Value} (he : ∀ w, (execOp a.eval o).run P w = .ok (.enter f args) w)
    (hB : ∀ w, I w → B ≤ w.heap.size) (hc : ∀ w, I w → depK o ks w → Calls P f args w (BRB w R b))
    (h : ∀ m, wpG P ops Q F I l cs (i + 1) ((i, fun w => ∀ u, Value.tuple #[rdV R m, .bool b] = .tuple #[rdV R u, .bool b] → RdA B w R u) :: ks) (a.put o.dst (.tuple #[.agg #[.slice m.p1 R.a.length m.c1, .slice m.p2 R.b.length m.c2, .slice m.p3 R.c.length m.c3, .slice m.p4 R.d.length m.c4], .bool b]))) : wpG P ops Q F I (o :: l) (GC.of (Clm.rodB R b B) :: cs) i ks a := by
  refine wpG_one (Clm.rodB R b B) rfl hw (fun w hi hk => ?_) ?_
  · rw [he w]
    refine Calls.mono (hc w hi hk) ?_
    rintro e w' ⟨m, rfl, hbl, hX⟩
    refine ⟨_, rfl, hbl, ⟨m, rfl⟩, fun u e => ?_⟩
    have e1 : rdV R m = rdV R u := by
      have h2 : Value.tuple #[rdV R m, .bool b] = .tuple #[rdV R u, .bool b] := e
      simpa using h2
    rw [← rdV_inj e1]
    exact hX.ra (hB w hi)
  · rintro v ⟨m, rfl⟩; exact h m
theorem RdA.low {B : Nat} {w : World} {R : Rd} {m : RL} (h : RdA B w R m) {b : Nat} (hb : b < B) (o : Nat) (vs : List Value) : RdA B (w.setCells b o vs) R m := by
  have hg := grown_setCells b vs o w
  have key : ∀ {u xs}, OF B w u xs → u.ownBlock = none ∨ u.ownBlock ≠ some b := fun {u xs} h1 => by
    cases hu : u.ownBlock with
    | none => exact .inl rfl
    | some k =>
      refine .inr fun e => ?_
      have h2 := (h1.block k hu).1
      cases e
      omega
  exact ⟨⟨h.1.1.kept hg (key h.1.1), h.1.2.1.kept hg (key h.1.2.1), h.1.2.2.1.kept hg (key h.1.2.2.1), h.1.2.2.2.kept hg (key h.1.2.2.2)⟩, h.2⟩
theorem owned_stored {w : World} {b : Nat} {a0 a1 a2 a3 x0 x1 x2 x3 : Value} (h : owned w b [a0, a1, a2, a3]) : owned (w.setCells b 0 [x0, x1, x2, x3]) b [x0, x1, x2, x3] := by
  have k0 := h 0 a0 rfl
  have k1 := h 1 a1 rfl
  have k2 := h 2 a2 rfl
  have k3 := h 3 a3 rfl
  intro k x hk
  simp only [World.setCells]
  match k, hk with
  | 0, hk => simp at hk; subst hk; exact ⟨by go_simp, by go_simp⟩
  | 1, hk => simp at hk; subst hk; exact ⟨by go_simp, by go_simp⟩
  | 2, hk => simp at hk; subst hk; exact ⟨by go_simp, by go_simp⟩
  | 3, hk => simp at hk; subst hk; exact ⟨by go_simp, by go_simp⟩
  | k + 4, hk => simp at hk
/-- What is told of the store of a rod. -/
def putRK (R : Rd) (B : Nat) (x : List Value) (w : World) : Prop := match x with | .pointer (some ⟨b, _, _⟩) :: v :: _ => (∀ u, v = rdV R u → RdA B w R u ∧ owned w b [.slice u.p1 R.a.length u.c1, .slice u.p2 R.b.length u.c2, .slice u.p3 R.c.length u.c3, .slice u.p4 R.d.length u.c4]) | _ => True
theorem putRK_later {R : Rd} {B : Nat} {x : List Value} {w w' : World} (h : putRK R B x w) (hb : Below w.heap.size w w') : putRK R B x w' := by
  unfold putRK at h ⊢
  split
  · exact fun u e => ⟨(h u e).1.later hb, (h u e).2.later hb⟩
  · trivial
def Clm.putG (R : Rd) (B : Nat) : Clm := ⟨3, fun _ v => v = undef, fun x _ w => putRK R B x w, fun _ => ⟨_, rfl⟩, fun _ _ _ _ h hb => putRK_later h hb, fun h => nomatch h⟩
theorem wpG_putR {R : Rd} {m : RL} {ty : TypeId} {X Y : Operand} {b : Nat} (B : Nat) (olds : List Value) (I' : World → Prop) (hI : ∀ w w', I' w → Below w.heap.size w w' → I' w') (ho : o.op = .store ty X Y) (hx : a.eval X = .pointer (some ⟨b, 0, none⟩)) (hy : a.eval Y = .agg #[.slice m.p1 R.a.length m.c1, .slice m.p2 R.b.length m.c2, .slice m.p3 R.c.length m.c3, .slice m.p4 R.d.length m.c4]) (hn : olds.length = 4)
    (hi : (P.info? ty).map (·.size) = some 4) (hw : Region.wanted o (yielded ops a.tmps) = true) (hk : ∀ w, I w → owned w b olds)
    (hm : ∀ w, I w → depK o ks w → (I' (w.setCells b 0 [.slice m.p1 R.a.length m.c1, .slice m.p2 R.b.length m.c2, .slice m.p3 R.c.length m.c3, .slice m.p4 R.d.length m.c4]) ∧ RdA B (w.setCells b 0 [.slice m.p1 R.a.length m.c1, .slice m.p2 R.b.length m.c2, .slice m.p3 R.c.length m.c3, .slice m.p4 R.d.length m.c4]) R m) ∧ owned (w.setCells b 0 [.slice m.p1 R.a.length m.c1, .slice m.p2 R.b.length m.c2, .slice m.p3 R.c.length m.c3, .slice m.p4 R.d.length m.c4]) b [.slice m.p1 R.a.length m.c1, .slice m.p2 R.b.length m.c2, .slice m.p3 R.c.length m.c3, .slice m.p4 R.d.length m.c4])
    (h : wpG P ops Q F I' l cs (i + 1) [(i, fun w => ∀ u, rdV R m = rdV R u → RdA B w R u ∧ owned w b [.slice u.p1 R.a.length u.c1, .slice u.p2 R.b.length u.c2, .slice u.p3 R.c.length u.c3, .slice u.p4 R.d.length u.c4])] (a.put o.dst undef)) : wpG P ops Q F I (o :: l) (⟨Clm.putG R B, I', hI⟩ :: cs) i ks a := by
  have ex : ∃ r, oargs ops o a = .pointer (some ⟨b, 0, none⟩) :: rdV R m :: r := ⟨_, by
    unfold oargs
    rw [ho]
    show [a.eval X, a.eval Y] ++ _ = _
    rw [hx, hy]; rfl⟩
  obtain ⟨r, ex⟩ := ex
  have ek : (Clm.putG R B).K (oargs ops o a) undef = fun w => ∀ u, rdV R m = rdV R u → RdA B w R u ∧ owned w b [.slice u.p1 R.a.length u.c1, .slice u.p2 R.b.length u.c2, .slice u.p3 R.c.length u.c3, .slice u.p4 R.d.length u.c4] := by
    funext w
    show putRK R B (oargs ops o a) w = _
    rw [ex]; rfl
  simp only [wpG]
  refine ⟨.inl ⟨hw, .inr (.inr (.inl rfl)), fun h => absurd (show (3 : Nat) = 0 from h) (by decide), fun h => absurd (show (3 : Nat) = 4 from h) (by decide), fun h => absurd (show (3 : Nat) = 1 from h) (by decide), fun _ w hi' hkw => ?_⟩, fun u hu => ?_⟩
  · have hown := hk w hi'
    have ht : w.there b 0 4 := fun j hj => by
      have hj' : j < olds.length := by omega
      have := hown j olds[j] (List.getElem?_eq_getElem hj')
      simp only [Nat.zero_add]
      exact ⟨by rw [this.1]; rfl, this.2⟩
    have hall : (#[Value.slice m.p1 R.a.length m.c1, .slice m.p2 R.b.length m.c2, .slice m.p3 R.c.length m.c3, .slice m.p4 R.d.length m.c4] : Array Value).all (·.oneCell') = true := Array.all_eq_true_iff_forall_mem.2 fun v hv => by
      simp only [List.mem_toArray, List.mem_cons, List.not_mem_nil, or_false] at hv
      rcases hv with rfl | rfl | rfl | rfl <;> rfl
    have hr : (execOp a.eval o).run P w = .ok .skip (w.setCells b 0 [.slice m.p1 R.a.length m.c1, .slice m.p2 R.b.length m.c2, .slice m.p3 R.c.length m.c3, .slice m.p4 R.d.length m.c4]) := by
      unfold execOp
      simp only [ho, hx, hy, Instr.storeAt, Instr.sureAddr, Sem.run_bind, Sem.run_pure, Result.andThen_ok, run_storeVar_mid w b 0 ty #[.slice m.p1 R.a.length m.c1, .slice m.p2 R.b.length m.c2, .slice m.p3 R.c.length m.c3, .slice m.p4 R.d.length m.c4] ht hi hall]
    rw [hr]
    obtain ⟨⟨g1, g2⟩, g3⟩ := hm w hi' hkw
    refine ⟨g1, rfl, ?_⟩
    rw [ek]
    intro u e
    rw [← rdV_inj e]
    exact ⟨g2, g3⟩
  · have hu : u = undef := hu
    subst hu
    rw [ek]
    exact h
end
end Go.Proofs.Ytgkcfeaknehopaa
