/-
  A statement whose order Go leaves open, whose operations each yield SOME value out of a class that hangs on the operands alone (a float's NaN: its bits are drawn), in worlds of a class: one walk in the order of the text serves every order. No condition; nothing of the program is named here.
-/
import Derived.WalkKit
import Derived.WalkSpells
import Derived.WalkLawsBesides
import Derived.Deep.QuietTactic
import Derived.BigQuiet
import Derived.Lib.Hide
import Derived.Deep.RegionWith
set_option linter.unusedSimpArgs false
set_option linter.unusedVariables false
set_option linter.unusedSectionVars false
namespace Go.Proofs.Ytldancjofgobnaa
open Go Go.RowKit

/-- Is a word of a float's kind a NaN. -/
def isN (k : FloatKind) (b : Nat) : Bool := (k.decode b).isNaN
/-- The word of the one NaN. -/
def qn : FloatKind → Nat | .f32 => 2143289344 | .f64 => 9221120237041090560
/-- A word, all NaNs taken as one. -/
def cn (k : FloatKind) (b : Nat) : Nat := if isN k b then qn k else b
def norm1 : Value → Value
  | .float k b => .float k (cn k b)
  | .complex k a b => .complex k (cn k a) (cn k b)
  | v => v
def norm : Value → Value
  | .tuple vs => .tuple (vs.map norm1)
  | v => norm1 v
/-- The class of a value: it alone, or all that are it but for a NaN's bits. -/
def inS (ex : Bool) (v0 v : Value) : Prop := if ex then v = v0 else norm v = norm v0

theorem inS_refl (ex : Bool) (v : Value) : inS ex v v := by cases ex <;> rfl

section
variable {P : Program} {ops : Array Oper} {md : Region.Mode} {C : World → Prop}

def someUpon (P : Program) (C : World → Prop) (S : Value → Prop) : Result Next → Prop
  | .ok (.value u) w' => C w' ∧ S u
  | .ok .skip w' => C w' ∧ S undef
  | .ok (.enter f args) w' => Calls P f args w' (fun e w'' => ∃ v, e = .returned v ∧ S v ∧ C w'')
  | _ => False

def someAt (P : Program) (C : World → Prop) (o : Oper) (a : Act) (S : Value → Prop) : Prop :=
  ∀ w, C w → someUpon P C S ((execOp a.eval o).run P w)

def someOf (P : Program) (C : World → Prop) (o : Oper) (a : Act) (next : Act → Prop) : Prop :=
  ∃ ex v0, someAt P C o a (inS ex v0) ∧ ∀ v, inS ex v0 v → next (a.put o.dst v)

/-- The walk in the order of the text. -/
def wpSome (P : Program) (ops : Array Oper) (C : World → Prop) (Q : Act → Prop) : List Oper → Act → Prop
  | [], a => Q a
  | o :: rest, a => if Region.wanted o (yielded ops a.tmps) then someOf P C o a (wpSome P ops C Q rest) else wpSome P ops C Q rest (a.put o.dst undef)

def sOp (P : Program) (ops : Array Oper) (C : World → Prop) (i : Nat) (K : Act → Prop) (a : Act) : Prop :=
  match ops[i]? with
  | none => K a
  | some o => if Region.wanted o (yielded ops a.tmps) then someOf P C o a K else K (a.put o.dst undef)

theorem someOf_mono {o : Oper} {a : Act} {K K' : Act → Prop} (h : ∀ a, K a → K' a) : someOf P C o a K → someOf P C o a K' :=
  fun ⟨ex, S, h1, h2⟩ => ⟨ex, S, h1, fun v hv => h _ (h2 v hv)⟩

theorem sOp_mono {i : Nat} {a : Act} {K K' : Act → Prop} (h : ∀ a, K a → K' a) (hh : sOp P ops C i K a) : sOp P ops C i K' a := by
  unfold sOp at *
  cases ho : ops[i]? with
  | none => rw [ho] at hh; exact h _ hh
  | some o =>
    rw [ho] at hh
    by_cases hw : Region.wanted o (yielded ops a.tmps) = true
    · simp only [hw, if_true] at hh ⊢; exact someOf_mono h hh
    · simp only [hw, Bool.false_eq_true, if_false] at hh ⊢; exact h _ hh

/-- In every order. -/
def wpAnySome (P : Program) (md : Region.Mode) (ops : Array Oper) (C : World → Prop) (Q : Act → Prop) : Nat → Array Bool → Act → Prop
  | 0, listed, a => Region.ready md ops listed = [] ∧ Q a
  | fuel + 1, listed, a => (Region.ready md ops listed = [] → Q a) ∧
    ∀ i ∈ Region.ready md ops listed, sOp P ops C i (wpAnySome P md ops C Q fuel (listed.setIfInBounds i true)) a

theorem wp_of_someOf {o : Oper} {a : Act} {K : Act → Prop} {K' : Act → World → Prop} {Q' : Exit → Act → World → Prop} {w : World} (hw : C w)
    (h : ∀ a w', C w' → K a → K' a w') (hh : someOf P C o a K) : o.wp P a w K' Q' := by
  obtain ⟨ex, v0, h1, h2⟩ := hh
  have h3 := h1 w hw
  unfold Oper.wp
  cases hr : (execOp a.eval o).run P w with
  | ok n w' =>
    rw [hr] at h3
    cases n with
    | value u => exact h _ _ h3.1 (h2 _ h3.2)
    | skip => exact h _ _ h3.1 (h2 _ h3.2)
    | enter f args =>
      simp only [Oper.upon]
      refine Calls.mono h3 ?_
      rintro e w'' ⟨v, rfl, hS, hC⟩
      exact h _ _ hC (h2 _ hS)
    | _ => exact h3.elim
  | halt x w' => rw [hr] at h3; exact h3.elim

theorem wpOp_of_sOp {i : Nat} {a : Act} {K : Act → Prop} {K' : Act → World → Prop} {Q' : Exit → Act → World → Prop} {w : World} (hC : C w)
    (h : ∀ a w', C w' → K a → K' a w') (hh : sOp P ops C i K a) : wpOp P ops Q' i K' a w := by
  unfold sOp at hh
  unfold wpOp
  cases ho : ops[i]? with
  | none => rw [ho] at hh; exact h _ _ hC hh
  | some o =>
    rw [ho] at hh
    by_cases hw : Region.wanted o (yielded ops a.tmps) = true
    · simp only [hw, if_true] at hh ⊢; exact .inl (wp_of_someOf hC h hh)
    · simp only [hw, Bool.false_eq_true, if_false] at hh ⊢; exact h _ _ hC hh

theorem wpAny_of_some {Q : Act → Prop} {Q' : Exit → Act → World → Prop} (hQ : ∀ a w, C w → Q a → Q' .normal a w) : ∀ (fuel : Nat) (listed : Array Bool) (a : Act) (w : World), C w →
    wpAnySome P md ops C Q fuel listed a → wpAny P md ops Q' fuel listed a w
  | 0, _, _, _, hw, h => ⟨h.1, hQ _ _ hw h.2⟩
  | fuel + 1, _, _, _, hw, h => ⟨fun h0 => hQ _ _ hw (h.1 h0), fun i hi => wpOp_of_sOp hw (fun a' w' hw' => wpAny_of_some hQ fuel _ a' w' hw') (h.2 i hi)⟩

/-- A caller that takes its callee's value and can go no further. -/
def stuckCaller : Frame := { fn := 0, tmps := #[undef], todo := [.inRegion #[{ dst := some 0, op := .waits 0, type := 0, pos := default, after := #[], guard := none }] [0], .code (.cond (.const (.int .i64 0)) .skip .skip)], defers := [], mode := .run, kind := .normal }
def stuckAfter (v : Value) : Frame := { fn := 0, tmps := #[v], todo := [.code (.cond (.const (.int .i64 0)) .skip .skip)], defers := [], mode := .run, kind := .normal }
def stuckNow (v : Value) : Frame := { fn := 0, tmps := #[v], todo := [.inRegion #[{ dst := some 0, op := .waits 0, type := 0, pos := default, after := #[], guard := none }] [], .code (.cond (.const (.int .i64 0)) .skip .skip)], defers := [], mode := .run, kind := .normal }
theorem stuck_finish (v : Value) : stuckCaller.finish v = stuckNow v := rfl
theorem stuck_goes (P : Program) (v : Value) (w : World) : step P (lone (stuckNow v) [] w) = .next (lone (stuckAfter v) [] w) := step_lone_go rfl
theorem stuck_ends (P : Program) (v : Value) (w : World) : ∃ o w', step P (lone (stuckAfter v) [] w) = .ended o w' := by
  have h : ∃ o w', (stepG P true { frame := stuckAfter v, callers := [], status := .running, dying := none } w).bare = .ended o w' := ⟨_, _, rfl⟩
  obtain ⟨o, w', h⟩ := h
  exact ⟨o, w', step_lone_ended h⟩
theorem stuck_runs (P : Program) (v u : Value) (w w2 : World) (d : Nat) (hd : 0 < d) : runN P d (lone (stuckNow v) [] w) ≠ .next (lone (stuckNow u) [] w2) := by
  obtain ⟨o, w', h⟩ := stuck_ends P v w
  obtain ⟨k, rfl⟩ : ∃ k, d = k + 1 := ⟨d - 1, by omega⟩
  simp only [runN, stuck_goes]
  cases k with
  | zero => simp [runN, lone, stuckAfter, stuckNow]
  | succ k => simp [runN, h]

theorem calls_run {f : FuncId} {args : Array Value} {w : World} {S : Value → Prop} {C : World → Prop}
    (h : Calls P f args w fun e w' => ∃ v, e = .returned v ∧ S v ∧ C w') : ∃ n v w', S v ∧ runN P n (lone (Frame.enter P f args .normal) [stuckCaller] w) = .next (lone (stuckCaller.finish v) [] w') := by
  obtain ⟨e, w', fr, ⟨v, rfl, hS, _⟩, ⟨n, hn⟩, _, hl⟩ := h [stuckCaller]
  refine ⟨n + 1, v, w', hS, ?_⟩
  rw [runN_add, hn]
  simp [runN, step_leave_returned hl]

/-- A machine has one run: two contracts of one call speak of one value. -/
theorem calls_meet {f : FuncId} {args : Array Value} {w : World} {S T : Value → Prop} {C D : World → Prop}
    (h1 : Calls P f args w fun e w' => ∃ v, e = .returned v ∧ S v ∧ C w') (h2 : Calls P f args w fun e w' => ∃ v, e = .returned v ∧ T v ∧ D w') : ∃ v, S v ∧ T v := by
  obtain ⟨n, v, w1, s1, r1⟩ := calls_run h1
  obtain ⟨m, u, w2, s2, r2⟩ := calls_run h2
  have key : ∀ {n m : Nat} {v u : Value} {w1 w2 : World}, n ≤ m → runN P n (lone (Frame.enter P f args .normal) [stuckCaller] w) = .next (lone (stuckCaller.finish v) [] w1) →
      runN P m (lone (Frame.enter P f args .normal) [stuckCaller] w) = .next (lone (stuckCaller.finish u) [] w2) → v = u := by
    intro n m v u w1 w2 hnm r1 r2
    obtain ⟨d, rfl⟩ : ∃ d, m = n + d := ⟨m - n, by omega⟩
    rw [runN_add, r1] at r2
    simp only at r2
    rcases Nat.eq_zero_or_pos d with rfl | hd
    · simp only [runN, Stepped.next.injEq] at r2
      simp only [lone, stuck_finish, stuckNow, Machine.mk.injEq, Array.mk.injEq, List.cons.injEq, Goroutine.mk.injEq, Frame.mk.injEq] at r2
      have := r2.2
      simpa using this
    · exact absurd r2 (stuck_runs P v u w1 w2 d hd)
  rcases Nat.le_total n m with hle | hle
  · have := key hle r1 r2; subst this; exact ⟨v, s1, s2⟩
  · have := key hle r2 r1; subst this; exact ⟨u, s1, s2⟩

theorem someAt_meet {o : Oper} {a : Act} {S T : Value → Prop} (hC : ∃ w, C w) (h1 : someAt P C o a S) (h2 : someAt P C o a T) : ∃ v, S v ∧ T v := by
  obtain ⟨w, hw⟩ := hC
  have g1 := h1 w hw
  have g2 := h2 w hw
  cases hr : (execOp a.eval o).run P w with
  | ok n w' =>
    rw [hr] at g1 g2
    cases n with
    | value u => exact ⟨u, g1.2, g2.2⟩
    | skip => exact ⟨_, g1.2, g2.2⟩
    | enter f args => exact calls_meet g1 g2
    | _ => exact g1.elim
  | halt x w' => rw [hr] at g1; exact g1.elim

/-- Of two classes that meet, the one that is a single value lies in the other; else they are one. -/
theorem inS_le {ex ex' : Bool} {v0 v1 : Value} (he : ex' = true → ex = true) (hm : ∃ v, inS ex v0 v ∧ inS ex' v1 v) {u : Value} (hu : inS ex v0 u) : inS ex' v1 u := by
  obtain ⟨v, h1, h2⟩ := hm
  cases ex with
  | true => simp only [inS, if_true] at h1 hu; subst h1; subst hu; exact h2
  | false =>
    cases ex' with
    | true => exact absurd (he rfl) (by simp)
    | false => simp only [inS, Bool.false_eq_true, if_false] at *; rw [hu, ← h1, h2]

def GivesIn (P : Program) (ops : Array Oper) (C : World → Prop) (o : Oper) (ex : Bool) (v0 : Value) (a : Act) : Prop :=
  (Region.wanted o (yielded ops a.tmps) = true ∧ someAt P C o a (inS ex v0)) ∨ (Region.wanted o (yielded ops a.tmps) = false ∧ ex = true ∧ v0 = undef)

theorem GivesIn.sOp {i : Nat} {o : Oper} {ex : Bool} {v0 : Value} {a : Act} (hi : ops[i]? = some o) (hy : GivesIn P ops C o ex v0 a) {K : Act → Prop} (h : ∀ v, inS ex v0 v → K (a.put o.dst v)) : sOp P ops C i K a := by
  unfold Go.Proofs.Ytldancjofgobnaa.sOp
  rw [hi]
  rcases hy with ⟨hw, hv⟩ | ⟨hw, rfl, rfl⟩
  · simp only [hw, if_true]; exact ⟨ex, v0, hv, h⟩
  · simp only [hw, Bool.false_eq_true, if_false]; exact h _ (inS_refl _ _)

theorem GivesIn.of_same {o : Oper} {ex : Bool} {v0 : Value} {a a' : Act} (hy : GivesIn P ops C o ex v0 a) (he : execOp a'.eval o = execOp a.eval o)
    (hw : Region.wanted o (yielded ops a'.tmps) = Region.wanted o (yielded ops a.tmps)) : GivesIn P ops C o ex v0 a' := by
  unfold GivesIn someAt at *
  rw [he, hw]
  exact hy

theorem givesIn_of_sOp {i : Nat} {o : Oper} {a : Act} {K : Act → Prop} (hi : ops[i]? = some o) (h : sOp P ops C i K a) : ∃ ex v0, GivesIn P ops C o ex v0 a ∧ ∀ v, inS ex v0 v → K (a.put o.dst v) := by
  unfold sOp at h
  rw [hi] at h
  by_cases hw : Region.wanted o (yielded ops a.tmps) = true
  · simp only [hw, if_true] at h
    obtain ⟨ex, v0, h1, h2⟩ := h
    exact ⟨ex, v0, .inl ⟨hw, h1⟩, h2⟩
  · simp only [hw, Bool.false_eq_true, if_false] at h
    refine ⟨true, undef, .inr ⟨by simpa using hw, rfl, rfl⟩, fun v hv => ?_⟩
    simp only [inS, if_true] at hv
    rw [hv]; exact h

theorem GivesIn.meet {o : Oper} {ex ex' : Bool} {v0 v1 : Value} {a : Act} (hC : ∃ w, C w) (h1 : GivesIn P ops C o ex v0 a) (h2 : GivesIn P ops C o ex' v1 a) : ∃ v, inS ex v0 v ∧ inS ex' v1 v := by
  rcases h1 with ⟨hw, h1⟩ | ⟨hw, rfl, rfl⟩ <;> rcases h2 with ⟨hw', h2⟩ | ⟨hw', rfl, rfl⟩
  · exact someAt_meet hC h1 h2
  · rw [hw] at hw'; cases hw'
  · rw [hw] at hw'; cases hw'
  · exact ⟨_, inS_refl _ _, inS_refl _ _⟩

/-- One operation that is apart from another one: it may come up ahead of it. -/
theorem sOp_put {j : Nat} {oi oj : Oper} {ex : Bool} {v0 : Value} (hC : ∃ w, C w) (hj : ops[j]? = some oj) (hap : oi.apart ops oj = true)
    (hsi : ∀ cs b, oi.op ≠ .select cs b) (hsj : ∀ cs b, oj.op ≠ .select cs b) {K : Act → Prop} {a : Act}
    (hy : GivesIn P ops C oi ex v0 a) (h : ∀ v, inS ex v0 v → sOp P ops C j K (a.put oi.dst v)) :
    sOp P ops C j (fun a' => GivesIn P ops C oi ex v0 a' ∧ ∀ v, inS ex v0 v → K (a'.put oi.dst v)) a := by
  obtain ⟨h1, h2, h3⟩ := Oper.apart_spec hap
  have keep : ∀ u, GivesIn P ops C oi ex v0 (a.put oj.dst u) := fun u => hy.of_same (execOp_put oi hsi a oj.dst u h3) (wanted_put oi a oj.dst u h3)
  have hg : ∀ v, inS ex v0 v → ∃ ex' u0, GivesIn P ops C oj ex' u0 a ∧ ∀ u, inS ex' u0 u → K ((a.put oj.dst u).put oi.dst v) := fun v hv => by
    obtain ⟨ex', u0, g1, g2⟩ := givesIn_of_sOp hj (h v hv)
    exact ⟨ex', u0, g1.of_same (execOp_put oj hsj a oi.dst v h1).symm (wanted_put oj a oi.dst v h1).symm, fun u hu => by rw [← Act.put_comm a v u h2]; exact g2 u hu⟩
  have pick : ∃ ex' u0, GivesIn P ops C oj ex' u0 a ∧ ∀ v, inS ex v0 v → ∀ ex'' u1, GivesIn P ops C oj ex'' u1 a → (ex'' = true → (∃ v, inS ex v0 v ∧ ∃ u2, GivesIn P ops C oj true u2 a) → ex' = true) := by
    by_cases hE : ∃ u2, GivesIn P ops C oj true u2 a
    · obtain ⟨u2, hu2⟩ := hE
      exact ⟨true, u2, hu2, fun _ _ _ _ _ _ _ => rfl⟩
    · obtain ⟨ex', u0, g1, _⟩ := hg v0 (inS_refl _ _)
      exact ⟨ex', u0, g1, fun _ _ _ _ _ _ hx => absurd hx.choose_spec.2 hE⟩
  obtain ⟨ex', u0, g1, g2⟩ := pick
  refine g1.sOp hj fun u hu => ⟨keep u, fun v hv => ?_⟩
  obtain ⟨ex'', u1, g3, g4⟩ := hg v hv
  refine g4 u (inS_le (fun he => ?_) (g1.meet hC g3) hu)
  subst he
  exact g2 v hv true u1 g3 rfl ⟨v, hv, u1, g3⟩

theorem wpAnySome_first {Q : Act → Prop} {i : Nat} {oi : Oper} {ex : Bool} {v0 : Value} (hC : ∃ w, C w) (hi : ops[i]? = some oi) (hsel : ∀ (j : Nat) (o : Oper) cs b, ops[j]? = some o → o.op ≠ .select cs b) :
    ∀ (fuel : Nat) (listed : Array Bool) (a : Act),
      (∀ j oj, ops[j]? = some oj → j ≠ i → listed.getD j true = false → (∀ e ∈ oj.after, Region.binds md e = true → e.on ≠ i) → oi.apart ops oj = true) →
      i ∈ Region.ready md ops listed → GivesIn P ops C oi ex v0 a →
      (∀ v, inS ex v0 v → wpAnySome P md ops C Q fuel (listed.setIfInBounds i true) (a.put oi.dst v)) → wpAnySome P md ops C Q (fuel + 1) listed a := by
  intro fuel
  induction fuel with
  | zero =>
    intro listed a _ hr hy H
    refine ⟨fun h => (by rw [h] at hr; cases hr), fun j hj => ?_⟩
    by_cases hji : j = i
    · subst hji; exact hy.sOp hi H
    · have := ready_mono hj hji
      rw [(H v0 (inS_refl _ _)).1] at this
      cases this
  | succ fuel ih =>
    intro listed a hfree hr hy H
    refine ⟨fun h => (by rw [h] at hr; cases hr), fun j hj => ?_⟩
    by_cases hji : j = i
    · subst hji; exact hy.sOp hi H
    · have H1 := fun v hv => (H v hv).2 j (ready_mono hj hji)
      obtain ⟨hjun, oj, hoj, hall⟩ := mem_ready.1 hj
      have hnot : ∀ e ∈ oj.after, Region.binds md e = true → e.on ≠ i := fun e he hb heq => by
        have g1 := hall e he hb
        have g0 := (mem_ready.1 hr).1
        rw [heq] at g1
        rcases Nat.lt_or_ge i listed.size with h' | h'
        · simp [h'] at g0 g1; rw [g0] at g1; cases g1
        · simp [Array.getElem?_eq_none h'] at g1
      have hfree' : ∀ k ok, ops[k]? = some ok → k ≠ i → (listed.setIfInBounds j true).getD k true = false →
          (∀ e ∈ ok.after, Region.binds md e = true → e.on ≠ i) → oi.apart ops ok = true := fun k ok hk hki hun hno => by
        refine hfree k ok hk hki ?_ hno
        by_cases hjk : j = k
        · subst hjk; exact hjun
        · rw [getD_set_ne true hjk] at hun; exact hun
      have h2 := sOp_put hC hoj (hfree j oj hoj hji hjun hnot) (fun cs b => hsel i oi cs b hi) (fun cs b => hsel j oj cs b hoj) hy H1
      refine sOp_mono (fun a' h3 => ih (listed.setIfInBounds j true) a' hfree' (ready_mono hr (Ne.symm hji)) h3.1 ?_) h2
      rw [Array.setIfInBounds_comm _ _ hji]
      exact h3.2

theorem wpAnySome_lex {Q : Act → Prop} (hC : ∃ w, C w) (hs : Region.noSelect ops = true) : ∀ (l : List Oper) (k : Nat) (listed : Array Bool) (a : Act), (∀ j, l[j]? = ops[k + j]?) →
    Region.lexFrom md ops l.length k listed = true → wpSome P ops C Q l a → wpAnySome P md ops C Q l.length listed a
  | [], _, _, _, _, hB, h => ⟨by simpa [Region.lexFrom] using hB, h⟩
  | o :: l, k, listed, a, hl, hB, h => by
    have h0 : ops[k]? = some o := by simpa using (hl 0).symm
    simp only [List.length_cons, Region.lexFrom, Bool.and_eq_true] at hB
    obtain ⟨⟨hr, hf⟩, hB'⟩ := hB
    have hst : sOp P ops C k (wpSome P ops C Q l) a := by unfold sOp; rw [h0]; exact h
    obtain ⟨ex, v0, hy, hK⟩ := givesIn_of_sOp h0 hst
    exact wpAnySome_first hC h0 (Region.noSelect_spec hs) l.length listed a (Region.free_spec h0 hf) (by simpa using hr) hy
      fun v hv => wpAnySome_lex hC hs l (k + 1) _ _ (fun j => by have := hl (j + 1); simpa [Nat.add_assoc, Nat.add_comm 1 j] using this) hB' (hK v hv)

/-- ONE WALK OF THE ORDER OF THE TEXT SERVES EVERY ORDER. -/
theorem wp_region_some {id : Nat} {Q : Exit → Act → World → Prop} {a : Act} {w : World} (hm : P.follows .mixedOrders = true) (hB : Region.lexB .any ops = true) (hC : C { w with drawn := w.drawn + 1 })
    (h : wpSome P ops C (fun a' => ∀ w', C w' → Q .normal a' w') ops.toList a) : (Code.region id ops true).wp P Q a w := by
  simp only [Region.lexB, Bool.and_eq_true] at hB
  refine wp_region_any hm (wpAny_of_some (Q := fun a' => ∀ w', C w' → Q .normal a' w') (fun _ w' hw' h => h w' hw') _ _ _ _ hC ?_)
  have := wpAnySome_lex (C := C) (md := .any) ⟨_, hC⟩ hB.1 ops.toList 0 (Array.replicate ops.size false) a (by simp) (by simpa using hB.2) h
  simpa using this

/-- The same for operations written out, at the class 'w after some draws'. -/
theorem wp_some_lit {id : Nat} {Q : Exit → Act → World → Prop} {a : Act} {w : World} {l : List Oper} (hm : P.follows .mixedOrders = true) (hB : Region.lexB .any l.toArray = true)
    (h : wpSome P l.toArray (fun w' => ∃ n, w' = w.drewN n) (fun a' => ∀ w', (∃ n, w' = w.drewN n) → Q .normal a' w') l a) : (Code.region id l.toArray true).wp P Q a w :=
  wp_region_some (C := fun w' => ∃ n, w' = w.drewN n) hm hB ⟨1, rfl⟩ (by simpa using h)

theorem wpSome_nil {Q : Act → Prop} {a : Act} (h : Q a) : wpSome P ops C Q [] a := h
theorem wpSome_cons {Q : Act → Prop} {a : Act} {o : Oper} {rest : List Oper} (h : if Region.wanted o (yielded ops a.tmps) then someOf P C o a (wpSome P ops C Q rest) else wpSome P ops C Q rest (a.put o.dst undef)) : wpSome P ops C Q (o :: rest) a := h
end
attribute [irreducible] wpSome
end Go.Proofs.Ytldancjofgobnaa
