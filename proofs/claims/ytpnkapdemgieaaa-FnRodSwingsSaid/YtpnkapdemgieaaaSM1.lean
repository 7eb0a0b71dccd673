/-
  A statement whose order Go leaves open, whose operations each yield SOME value out of a class that hangs on the operands alone (a float's NaN: its bits are drawn), in worlds of a class: one walk in the order of the text serves every order. No condition; nothing of the program is named here.
  What Go's operations on floats give, all NaNs taken as one word, as plain functions of the operands' words; the walk's laws for them, in a list of operations and in a region that draws its order. No condition but what each law says.
  The walk's laws for float operations whose result may be a NaN (its bits are drawn from the tape), in a list of operations and in a region that draws its order. No condition but what each law says.
  How this seat's structs by value are opened to their fields and shut again; the world's frame behind a call that only makes memory. No condition.
  A statement whose order Go leaves open and whose operations make memory: each operation yields some value of a class, with a claim on the world that later memory keeps; one walk in the order of the text serves every order. No condition; nothing of the program is named here.
-/
import Derived.WalkKit
import Derived.WalkSpells
import Derived.WalkLawsBesides
import Derived.Deep.QuietTactic
import Derived.BigQuiet
import Derived.Lib.Hide
import Derived.Deep.RegionWith
import Derived.Test.YtpnkapdemgieaaaRows
import Derived.ProofKit
import Derived.OpenShut
import Derived.Lib.SmallJoins
import Derived.Deep.Fields
import Derived.Deep.MidRow
set_option linter.unusedSimpArgs false
set_option linter.unusedVariables false
set_option linter.unusedSectionVars false
namespace Go.Proofs.Ytpnkapdemgieaaa
open Go Go.RowKit
/-- Is a word of a float's kind a NaN. -/
def isN (k : FloatKind) (b : Nat) : Bool := (k.decode b).isNaN
/-- The word of the one NaN. -/
def qn : FloatKind → Nat | .f32 => 2143289344 | .f64 => 9221120237041090560
/-- A word, all NaNs taken as one. -/
def cn (k : FloatKind) (b : Nat) : Nat := if isN k b then qn k else b
def norm1 : Value → Value
  | .float k b => .float k (cn k b)
  | .complex k a b => .complex k (cn k a) (cn k b)
  | v => v
def norm : Value → Value
  | .tuple vs => .tuple (vs.map norm1)
  | v => norm1 v
/-- The class of a value: it alone, or all that are it but for a NaN's bits. -/
def inS (ex : Bool) (v0 v : Value) : Prop := if ex then v = v0 else norm v = norm v0
theorem inS_refl (ex : Bool) (v : Value) : inS ex v v := by cases ex <;> rfl
section
variable {P : Program} {ops : Array Oper} {md : Region.Mode} {C : World → Prop}
def someUpon (P : Program) (C : World → Prop) (S : Value → Prop) : Result Next → Prop
  | .ok (.value u) w' => C w' ∧ S u
  | .ok .skip w' => C w' ∧ S undef
  | .ok (.enter f args) w' => Calls P f args w' (fun e w'' => ∃ v, e = .returned v ∧ S v ∧ C w'')
  | _ => False
def someAt (P : Program) (C : World → Prop) (o : Oper) (a : Act) (S : Value → Prop) : Prop :=
  ∀ w, C w → someUpon P C S ((execOp a.eval o).run P w)
def someOf (P : Program) (C : World → Prop) (o : Oper) (a : Act) (next : Act → Prop) : Prop :=
  ∃ ex v0, someAt P C o a (inS ex v0) ∧ ∀ v, inS ex v0 v → next (a.put o.dst v)
/-- The walk in the order of the text. -/
def wpSome (P : Program) (ops : Array Oper) (C : World → Prop) (Q : Act → Prop) : List Oper → Act → Prop
  | [], a => Q a
  | o :: rest, a => if Region.wanted o (yielded ops a.tmps) then someOf P C o a (wpSome P ops C Q rest) else wpSome P ops C Q rest (a.put o.dst undef)
def sOp (P : Program) (ops : Array Oper) (C : World → Prop) (i : Nat) (K : Act → Prop) (a : Act) : Prop :=
  match ops[i]? with
  | none => K a
  | some o => if Region.wanted o (yielded ops a.tmps) then someOf P C o a K else K (a.put o.dst undef)
theorem someOf_mono {o : Oper} {a : Act} {K K' : Act → Prop} (h : ∀ a, K a → K' a) : someOf P C o a K → someOf P C o a K' :=
  fun ⟨ex, S, h1, h2⟩ => ⟨ex, S, h1, fun v hv => h _ (h2 v hv)⟩
theorem sOp_mono {i : Nat} {a : Act} {K K' : Act → Prop} (h : ∀ a, K a → K' a) (hh : sOp P ops C i K a) : sOp P ops C i K' a := by
  unfold sOp at *
  cases ho : ops[i]? with
  | none => rw [ho] at hh; exact h _ hh
  | some o =>
    rw [ho] at hh
    by_cases hw : Region.wanted o (yielded ops a.tmps) = true
    · simp only [hw, if_true] at hh ⊢; exact someOf_mono h hh
    · simp only [hw, Bool.false_eq_true, if_false] at hh ⊢; exact h _ hh
/-- In every order. -/
def wpAnySome (P : Program) (md : Region.Mode) (ops : Array Oper) (C : World → Prop) (Q : Act → Prop) : Nat → Array Bool → Act → Prop
  | 0, listed, a => Region.ready md ops listed = [] ∧ Q a
  | fuel + 1, listed, a => (Region.ready md ops listed = [] → Q a) ∧
    ∀ i ∈ Region.ready md ops listed, sOp P ops C i (wpAnySome P md ops C Q fuel (listed.setIfInBounds i true)) a
theorem wp_of_someOf {o : Oper} {a : Act} {K : Act → Prop} {K' : Act → World → Prop} {Q' : Exit → Act → World → Prop} {w : World} (hw : C w)
    (h : ∀ a w', C w' → K a → K' a w') (hh : someOf P C o a K) : o.wp P a w K' Q' := by
  obtain ⟨ex, v0, h1, h2⟩ := hh
  have h3 := h1 w hw
  unfold Oper.wp
  cases hr : (execOp a.eval o).run P w with
  | ok n w' =>
    rw [hr] at h3
    cases n with
    | value u => exact h _ _ h3.1 (h2 _ h3.2)
    | skip => exact h _ _ h3.1 (h2 _ h3.2)
    | enter f args =>
      simp only [Oper.upon]
      refine Calls.mono h3 ?_
      rintro e w'' ⟨v, rfl, hS, hC⟩
      exact h _ _ hC (h2 _ hS)
    | _ => exact h3.elim
  | halt x w' => rw [hr] at h3; exact h3.elim
theorem wpOp_of_sOp {i : Nat} {a : Act} {K : Act → Prop} {K' : Act → World → Prop} {Q' : Exit → Act → World → Prop} {w : World} (hC : C w)
    (h : ∀ a w', C w' → K a → K' a w') (hh : sOp P ops C i K a) : wpOp P ops Q' i K' a w := by
  unfold sOp at hh
  unfold wpOp
  cases ho : ops[i]? with
  | none => rw [ho] at hh; exact h _ _ hC hh
  | some o =>
    rw [ho] at hh
    by_cases hw : Region.wanted o (yielded ops a.tmps) = true
    · simp only [hw, if_true] at hh ⊢; exact .inl (wp_of_someOf hC h hh)
    · simp only [hw, Bool.false_eq_true, if_false] at hh ⊢; exact h _ _ hC hh
theorem wpAny_of_some {Q : Act → Prop} {Q' : Exit → Act → World → Prop} (hQ : ∀ a w, C w → Q a → Q' .normal a w) : ∀ (fuel : Nat) (listed : Array Bool) (a : Act) (w : World), C w →
    wpAnySome P md ops C Q fuel listed a → wpAny P md ops Q' fuel listed a w
  | 0, _, _, _, hw, h => ⟨h.1, hQ _ _ hw h.2⟩
  | fuel + 1, _, _, _, hw, h => ⟨fun h0 => hQ _ _ hw (h.1 h0), fun i hi => wpOp_of_sOp hw (fun a' w' hw' => wpAny_of_some hQ fuel _ a' w' hw') (h.2 i hi)⟩
/-- A caller that takes its callee's value and can go no further. -/
def stuckCaller : Frame := { fn := 0, tmps := #[undef], todo := [.inRegion #[{ dst := some 0, op := .waits 0, type := 0, pos := default, after := #[], guard := none }] [0], .code (.cond (.const (.int .i64 0)) .skip .skip)], defers := [], mode := .run, kind := .normal }
def stuckAfter (v : Value) : Frame := { fn := 0, tmps := #[v], todo := [.code (.cond (.const (.int .i64 0)) .skip .skip)], defers := [], mode := .run, kind := .normal }
def stuckNow (v : Value) : Frame := { fn := 0, tmps := #[v], todo := [.inRegion #[{ dst := some 0, op := .waits 0, type := 0, pos := default, after := #[], guard := none }] [], .code (.cond (.const (.int .i64 0)) .skip .skip)], defers := [], mode := .run, kind := .normal }
theorem stuck_finish (v : Value) : stuckCaller.finish v = stuckNow v := rfl
theorem stuck_goes (P : Program) (v : Value) (w : World) : step P (lone (stuckNow v) [] w) = .next (lone (stuckAfter v) [] w) := step_lone_go rfl
theorem stuck_ends (P : Program) (v : Value) (w : World) : ∃ o w', step P (lone (stuckAfter v) [] w) = .ended o w' := by
  have h : ∃ o w', (stepG P true { frame := stuckAfter v, callers := [], status := .running, dying := none } w).bare = .ended o w' := ⟨_, _, rfl⟩
  obtain ⟨o, w', h⟩ := h
  exact ⟨o, w', step_lone_ended h⟩
theorem stuck_runs (P : Program) (v u : Value) (w w2 : World) (d : Nat) (hd : 0 < d) : runN P d (lone (stuckNow v) [] w) ≠ .next (lone (stuckNow u) [] w2) := by
  obtain ⟨o, w', h⟩ := stuck_ends P v w
  obtain ⟨k, rfl⟩ : ∃ k, d = k + 1 := ⟨d - 1, by omega⟩
  simp only [runN, stuck_goes]
  cases k with
  | zero => simp [runN, lone, stuckAfter, stuckNow]
  | succ k => simp [runN, h]
theorem calls_run {f : FuncId} {args : Array Value} {w : World} {S : Value → Prop} {C : World → Prop}
    (h : Calls P f args w fun e w' => ∃ v, e = .returned v ∧ S v ∧ C w') : ∃ n v w', S v ∧ runN P n (lone (Frame.enter P f args .normal) [stuckCaller] w) = .next (lone (stuckCaller.finish v) [] w') := by
  obtain ⟨e, w', fr, ⟨v, rfl, hS, _⟩, ⟨n, hn⟩, _, hl⟩ := h [stuckCaller]
  refine ⟨n + 1, v, w', hS, ?_⟩
  rw [runN_add, hn]
  simp [runN, step_leave_returned hl]
/-- A machine has one run: two contracts of one call speak of one value. -/
theorem calls_meet {f : FuncId} {args : Array Value} {w : World} {S T : Value → Prop} {C D : World → Prop}
    (h1 : Calls P f args w fun e w' => ∃ v, e = .returned v ∧ S v ∧ C w') (h2 : Calls P f args w fun e w' => ∃ v, e = .returned v ∧ T v ∧ D w') : ∃ v, S v ∧ T v := by
  obtain ⟨n, v, w1, s1, r1⟩ := calls_run h1
  obtain ⟨m, u, w2, s2, r2⟩ := calls_run h2
  have key : ∀ {n m : Nat} {v u : Value} {w1 w2 : World}, n ≤ m → runN P n (lone (Frame.enter P f args .normal) [stuckCaller] w) = .next (lone (stuckCaller.finish v) [] w1) →
      runN P m (lone (Frame.enter P f args .normal) [stuckCaller] w) = .next (lone (stuckCaller.finish u) [] w2) → v = u := by
    intro n m v u w1 w2 hnm r1 r2
    obtain ⟨d, rfl⟩ : ∃ d, m = n + d := ⟨m - n, by omega⟩
    rw [runN_add, r1] at r2
    simp only at r2
    rcases Nat.eq_zero_or_pos d with rfl | hd
    · simp only [runN, Stepped.next.injEq] at r2
      simp only [lone, stuck_finish, stuckNow, Machine.mk.injEq, Array.mk.injEq, List.cons.injEq, Goroutine.mk.injEq, Frame.mk.injEq] at r2
      have := r2.2
      simpa using this
    · exact absurd r2 (stuck_runs P v u w1 w2 d hd)
  rcases Nat.le_total n m with hle | hle
  · have := key hle r1 r2; subst this; exact ⟨v, s1, s2⟩
  · have := key hle r2 r1; subst this; exact ⟨u, s1, s2⟩
theorem someAt_meet {o : Oper} {a : Act} {S T : Value → Prop} (hC : ∃ w, C w) (h1 : someAt P C o a S) (h2 : someAt P C o a T) : ∃ v, S v ∧ T v := by
  obtain ⟨w, hw⟩ := hC
  have g1 := h1 w hw
  have g2 := h2 w hw
  cases hr : (execOp a.eval o).run P w with
  | ok n w' =>
    rw [hr] at g1 g2
    cases n with
    | value u => exact ⟨u, g1.2, g2.2⟩
    | skip => exact ⟨_, g1.2, g2.2⟩
    | enter f args => exact calls_meet g1 g2
    | _ => exact g1.elim
  | halt x w' => rw [hr] at g1; exact g1.elim
/-- Of two classes that meet, the one that is a single value lies in the other; else they are one. -/
theorem inS_le {ex ex' : Bool} {v0 v1 : Value} (he : ex' = true → ex = true) (hm : ∃ v, inS ex v0 v ∧ inS ex' v1 v) {u : Value} (hu : inS ex v0 u) : inS ex' v1 u := by
  obtain ⟨v, h1, h2⟩ := hm
  cases ex with
  | true => simp only [inS, if_true] at h1 hu; subst h1; subst hu; exact h2
  | false =>
    cases ex' with
    | true => exact absurd (he rfl) (by simp)
    | false => simp only [inS, Bool.false_eq_true, if_false] at *; rw [hu, ← h1, h2]
def GivesIn (P : Program) (ops : Array Oper) (C : World → Prop) (o : Oper) (ex : Bool) (v0 : Value) (a : Act) : Prop :=
  (Region.wanted o (yielded ops a.tmps) = true ∧ someAt P C o a (inS ex v0)) ∨ (Region.wanted o (yielded ops a.tmps) = false ∧ ex = true ∧ v0 = undef)
theorem GivesIn.sOp {i : Nat} {o : Oper} {ex : Bool} {v0 : Value} {a : Act} (hi : ops[i]? = some o) (hy : GivesIn P ops C o ex v0 a) {K : Act → Prop} (h : ∀ v, inS ex v0 v → K (a.put o.dst v)) : sOp P ops C i K a := by
  unfold Go.Proofs.Ytpnkapdemgieaaa.sOp
  rw [hi]
  rcases hy with ⟨hw, hv⟩ | ⟨hw, rfl, rfl⟩
  · simp only [hw, if_true]; exact ⟨ex, v0, hv, h⟩
  · simp only [hw, Bool.false_eq_true, if_false]; exact h _ (inS_refl _ _)
theorem GivesIn.of_same {o : Oper} {ex : Bool} {v0 : Value} {a a' : Act} (hy : GivesIn P ops C o ex v0 a) (he : execOp a'.eval o = execOp a.eval o)
    (hw : Region.wanted o (yielded ops a'.tmps) = Region.wanted o (yielded ops a.tmps)) : GivesIn P ops C o ex v0 a' := by
  unfold GivesIn someAt at *
  rw [he, hw]
  exact hy
theorem givesIn_of_sOp {i : Nat} {o : Oper} {a : Act} {K : Act → Prop} (hi : ops[i]? = some o) (h : sOp P ops C i K a) : ∃ ex v0, GivesIn P ops C o ex v0 a ∧ ∀ v, inS ex v0 v → K (a.put o.dst v) := by
  unfold sOp at h
  rw [hi] at h
  by_cases hw : Region.wanted o (yielded ops a.tmps) = true
  · simp only [hw, if_true] at h
    obtain ⟨ex, v0, h1, h2⟩ := h
    exact ⟨ex, v0, .inl ⟨hw, h1⟩, h2⟩
  · simp only [hw, Bool.false_eq_true, if_false] at h
    refine ⟨true, undef, .inr ⟨by simpa using hw, rfl, rfl⟩, fun v hv => ?_⟩
    simp only [inS, if_true] at hv
    rw [hv]; exact h
theorem GivesIn.meet {o : Oper} {ex ex' : Bool} {v0 v1 : Value} {a : Act} (hC : ∃ w, C w) (h1 : GivesIn P ops C o ex v0 a) (h2 : GivesIn P ops C o ex' v1 a) : ∃ v, inS ex v0 v ∧ inS ex' v1 v := by
  rcases h1 with ⟨hw, h1⟩ | ⟨hw, rfl, rfl⟩ <;> rcases h2 with ⟨hw', h2⟩ | ⟨hw', rfl, rfl⟩
  · exact someAt_meet hC h1 h2
  · rw [hw] at hw'; cases hw'
  · rw [hw] at hw'; cases hw'
  · exact ⟨_, inS_refl _ _, inS_refl _ _⟩
/-- One operation that is apart from another one: it may come up ahead of it. -/
theorem sOp_put {j : Nat} {oi oj : Oper} {ex : Bool} {v0 : Value} (hC : ∃ w, C w) (hj : ops[j]? = some oj) (hap : oi.apart ops oj = true)
    (hsi : ∀ cs b, oi.op ≠ .select cs b) (hsj : ∀ cs b, oj.op ≠ .select cs b) {K : Act → Prop} {a : Act}
    (hy : GivesIn P ops C oi ex v0 a) (h : ∀ v, inS ex v0 v → sOp P ops C j K (a.put oi.dst v)) :
    sOp P ops C j (fun a' => GivesIn P ops C oi ex v0 a' ∧ ∀ v, inS ex v0 v → K (a'.put oi.dst v)) a := by
  obtain ⟨h1, h2, h3⟩ := Oper.apart_spec hap
  have keep : ∀ u, GivesIn P ops C oi ex v0 (a.put oj.dst u) := fun u => hy.of_same (execOp_put oi hsi a oj.dst u h3) (wanted_put oi a oj.dst u h3)
  have hg : ∀ v, inS ex v0 v → ∃ ex' u0, GivesIn P ops C oj ex' u0 a ∧ ∀ u, inS ex' u0 u → K ((a.put oj.dst u).put oi.dst v) := fun v hv => by
    obtain ⟨ex', u0, g1, g2⟩ := givesIn_of_sOp hj (h v hv)
    exact ⟨ex', u0, g1.of_same (execOp_put oj hsj a oi.dst v h1).symm (wanted_put oj a oi.dst v h1).symm, fun u hu => by rw [← Act.put_comm a v u h2]; exact g2 u hu⟩
  have pick : ∃ ex' u0, GivesIn P ops C oj ex' u0 a ∧ ∀ v, inS ex v0 v → ∀ ex'' u1, GivesIn P ops C oj ex'' u1 a → (ex'' = true → (∃ v, inS ex v0 v ∧ ∃ u2, GivesIn P ops C oj true u2 a) → ex' = true) := by
    by_cases hE : ∃ u2, GivesIn P ops C oj true u2 a
    · obtain ⟨u2, hu2⟩ := hE
      exact ⟨true, u2, hu2, fun _ _ _ _ _ _ _ => rfl⟩
    · obtain ⟨ex', u0, g1, _⟩ := hg v0 (inS_refl _ _)
      exact ⟨ex', u0, g1, fun _ _ _ _ _ _ hx => absurd hx.choose_spec.2 hE⟩
  obtain ⟨ex', u0, g1, g2⟩ := pick
  refine g1.sOp hj fun u hu => ⟨keep u, fun v hv => ?_⟩
  obtain ⟨ex'', u1, g3, g4⟩ := hg v hv
  refine g4 u (inS_le (fun he => ?_) (g1.meet hC g3) hu)
  subst he
  exact g2 v hv true u1 g3 rfl ⟨v, hv, u1, g3⟩
theorem wpAnySome_first {Q : Act → Prop} {i : Nat} {oi : Oper} {ex : Bool} {v0 : Value} (hC : ∃ w, C w) (hi : ops[i]? = some oi) (hsel : ∀ (j : Nat) (o : Oper) cs b, ops[j]? = some o → o.op ≠ .select cs b) :
    ∀ (fuel : Nat) (listed : Array Bool) (a : Act),
      (∀ j oj, ops[j]? = some oj → j ≠ i → listed.getD j true = false → (∀ e ∈ oj.after, Region.binds md e = true → e.on ≠ i) → oi.apart ops oj = true) →
      i ∈ Region.ready md ops listed → GivesIn P ops C oi ex v0 a →
      (∀ v, inS ex v0 v → wpAnySome P md ops C Q fuel (listed.setIfInBounds i true) (a.put oi.dst v)) → wpAnySome P md ops C Q (fuel + 1) listed a := by
  intro fuel
  induction fuel with
  | zero =>
    intro listed a _ hr hy H
    refine ⟨fun h => (by rw [h] at hr; cases hr), fun j hj => ?_⟩
    by_cases hji : j = i
    · subst hji; exact hy.sOp hi H
    · have := ready_mono hj hji
      rw [(H v0 (inS_refl _ _)).1] at this
      cases this
  | succ fuel ih =>
    intro listed a hfree hr hy H
    refine ⟨fun h => (by rw [h] at hr; cases hr), fun j hj => ?_⟩
    by_cases hji : j = i
    · subst hji; exact hy.sOp hi H
    · have H1 := fun v hv => (H v hv).2 j (ready_mono hj hji)
      obtain ⟨hjun, oj, hoj, hall⟩ := mem_ready.1 hj
      have hnot : ∀ e ∈ oj.after, Region.binds md e = true → e.on ≠ i := fun e he hb heq => by
        have g1 := hall e he hb
        have g0 := (mem_ready.1 hr).1
        rw [heq] at g1
        rcases Nat.lt_or_ge i listed.size with h' | h'
        · simp [h'] at g0 g1; rw [g0] at g1; cases g1
        · simp [Array.getElem?_eq_none h'] at g1
      have hfree' : ∀ k ok, ops[k]? = some ok → k ≠ i → (listed.setIfInBounds j true).getD k true = false →
          (∀ e ∈ ok.after, Region.binds md e = true → e.on ≠ i) → oi.apart ops ok = true := fun k ok hk hki hun hno => by
        refine hfree k ok hk hki ?_ hno
        by_cases hjk : j = k
        · subst hjk; exact hjun
        · rw [getD_set_ne true hjk] at hun; exact hun
      have h2 := sOp_put hC hoj (hfree j oj hoj hji hjun hnot) (fun cs b => hsel i oi cs b hi) (fun cs b => hsel j oj cs b hoj) hy H1
      refine sOp_mono (fun a' h3 => ih (listed.setIfInBounds j true) a' hfree' (ready_mono hr (Ne.symm hji)) h3.1 ?_) h2
      rw [Array.setIfInBounds_comm _ _ hji]
      exact h3.2
theorem wpAnySome_lex {Q : Act → Prop} (hC : ∃ w, C w) (hs : Region.noSelect ops = true) : ∀ (l : List Oper) (k : Nat) (listed : Array Bool) (a : Act), (∀ j, l[j]? = ops[k + j]?) →
    Region.lexFrom md ops l.length k listed = true → wpSome P ops C Q l a → wpAnySome P md ops C Q l.length listed a
  | [], _, _, _, _, hB, h => ⟨by simpa [Region.lexFrom] using hB, h⟩
  | o :: l, k, listed, a, hl, hB, h => by
    have h0 : ops[k]? = some o := by simpa using (hl 0).symm
    simp only [List.length_cons, Region.lexFrom, Bool.and_eq_true] at hB
    obtain ⟨⟨hr, hf⟩, hB'⟩ := hB
    have hst : sOp P ops C k (wpSome P ops C Q l) a := by unfold sOp; rw [h0]; exact h
    obtain ⟨ex, v0, hy, hK⟩ := givesIn_of_sOp h0 hst
    exact wpAnySome_first hC h0 (Region.noSelect_spec hs) l.length listed a (Region.free_spec h0 hf) (by simpa using hr) hy
      fun v hv => wpAnySome_lex hC hs l (k + 1) _ _ (fun j => by have := hl (j + 1); simpa [Nat.add_assoc, Nat.add_comm 1 j] using this) hB' (hK v hv)
/-- ONE WALK OF THE ORDER OF THE TEXT SERVES EVERY ORDER. -/
theorem wp_region_some {id : Nat} {Q : Exit → Act → World → Prop} {a : Act} {w : World} (hm : P.follows .mixedOrders = true) (hB : Region.lexB .any ops = true) (hC : C { w with drawn := w.drawn + 1 })
    (h : wpSome P ops C (fun a' => ∀ w', C w' → Q .normal a' w') ops.toList a) : (Code.region id ops true).wp P Q a w := by
  simp only [Region.lexB, Bool.and_eq_true] at hB
  refine wp_region_any hm (wpAny_of_some (Q := fun a' => ∀ w', C w' → Q .normal a' w') (fun _ w' hw' h => h w' hw') _ _ _ _ hC ?_)
  have := wpAnySome_lex (C := C) (md := .any) ⟨_, hC⟩ hB.1 ops.toList 0 (Array.replicate ops.size false) a (by simp) (by simpa using hB.2) h
  simpa using this
/-- The same for operations written out, at the class 'w after some draws'. -/
theorem wp_some_lit {id : Nat} {Q : Exit → Act → World → Prop} {a : Act} {w : World} {l : List Oper} (hm : P.follows .mixedOrders = true) (hB : Region.lexB .any l.toArray = true)
    (h : wpSome P l.toArray (fun w' => ∃ n, w' = w.drewN n) (fun a' => ∀ w', (∃ n, w' = w.drewN n) → Q .normal a' w') l a) : (Code.region id l.toArray true).wp P Q a w :=
  wp_region_some (C := fun w' => ∃ n, w' = w.drewN n) hm hB ⟨1, rfl⟩ (by simpa using h)
theorem wpSome_nil {Q : Act → Prop} {a : Act} (h : Q a) : wpSome P ops C Q [] a := h
theorem wpSome_cons {Q : Act → Prop} {a : Act} {o : Oper} {rest : List Oper} (h : if Region.wanted o (yielded ops a.tmps) then someOf P C o a (wpSome P ops C Q rest) else wpSome P ops C Q rest (a.put o.dst undef)) : wpSome P ops C Q (o :: rest) a := h
end
attribute [irreducible] wpSome
end Go.Proofs.Ytpnkapdemgieaaa
set_option linter.unusedSimpArgs false
set_option linter.unusedVariables false
set_option linter.unusedSectionVars false
namespace Go.Proofs.Ytpnkapdemgieaaa
open Go Go.RowKit
theorem isN_qn (k : FloatKind) : isN k (qn k) = true := by cases k <;> decide +kernel
theorem cn_of_isN {k : FloatKind} {b : Nat} (h : isN k b = true) : cn k b = qn k := by simp [cn, h]
theorem cn_of_not {k : FloatKind} {b : Nat} (h : isN k b = false) : cn k b = b := by simp [cn, h]
theorem isN_cn (k : FloatKind) (b : Nat) : isN k (cn k b) = isN k b := by
  by_cases h : isN k b = true
  · rw [cn_of_isN h, isN_qn, h]
  · rw [cn_of_not (by simpa using h)]
theorem cn_cn (k : FloatKind) (b : Nat) : cn k (cn k b) = cn k b := by
  by_cases h : isN k b = true
  · rw [cn_of_isN h, cn_of_isN (isN_qn k)]
  · rw [cn_of_not (b := cn k b) (by rw [isN_cn]; simpa using h)]
theorem decode_nan {k : FloatKind} {b : Nat} (h : isN k b = true) : ∃ s t, k.format.read b = .nan s t := by
  unfold isN FloatKind.decode at h
  cases hd : k.format.read b <;> rw [hd] at h <;> simp [Ieee.Datum.isNaN] at h
  exact ⟨_, _, rfl⟩
theorem order_nan_l {k : FloatKind} {x y : Nat} (h : isN k x = true) : k.format.order x y = none := by
  obtain ⟨s, t, e⟩ := decode_nan h
  simp [Ieee.Format.order, e, Ieee.Datum.order]
theorem order_nan_r {k : FloatKind} {x y : Nat} (h : isN k y = true) : k.format.order x y = none := by
  obtain ⟨s, t, e⟩ := decode_nan h
  simp only [Ieee.Format.order, e]
  cases k.format.read x <;> rfl
theorem order_cn (k : FloatKind) (x y : Nat) : k.format.order (cn k x) (cn k y) = k.format.order x y := by
  by_cases hx : isN k x = true
  · rw [order_nan_l hx, order_nan_l (by rw [isN_cn]; exact hx)]
  · by_cases hy : isN k y = true
    · rw [order_nan_r hy, order_nan_r (by rw [isN_cn]; exact hy)]
    · rw [cn_of_not (by simpa using hx), cn_of_not (by simpa using hy)]
theorem floatBits_nan_l {op : BinOp} {k : FloatKind} {x y : Nat} (h : isN k x = true) : floatBits op k x y = none := by
  obtain ⟨s, t, e⟩ := decode_nan h
  cases op <;> simp [floatBits, Ieee.Format.add, Ieee.Format.sub, Ieee.Format.mul, Ieee.Format.div, e, Ieee.Datum.sum, Ieee.Datum.product, Ieee.Datum.quotient]
theorem floatBits_nan_r {op : BinOp} {k : FloatKind} {x y : Nat} (h : isN k y = true) : floatBits op k x y = none := by
  obtain ⟨s, t, e⟩ := decode_nan h
  cases op <;> simp only [floatBits, Ieee.Format.add, Ieee.Format.sub, Ieee.Format.mul, Ieee.Format.div, e, Ieee.Datum.opposite] <;> cases k.format.read x <;> rfl
theorem floatBits_cn (op : BinOp) (k : FloatKind) (x y : Nat) : floatBits op k (cn k x) (cn k y) = floatBits op k x y := by
  by_cases hx : isN k x = true
  · rw [floatBits_nan_l hx, floatBits_nan_l (by rw [isN_cn]; exact hx)]
  · by_cases hy : isN k y = true
    · rw [floatBits_nan_r hy, floatBits_nan_r (by rw [isN_cn]; exact hy)]
    · rw [cn_of_not (by simpa using hx), cn_of_not (by simpa using hy)]
/-- A word whose rung is at most infinity's is no NaN. -/
theorem read_word_not_nan (f : Ieee.Format) (neg : Bool) {rung : Nat} (h : rung ≤ f.infRung) : (f.read (f.word neg rung)).isNaN = false := by
  have hlt : f.infRung < f.signWeight := f.infRung_lt
  have e : f.word neg rung % f.signWeight = rung := by
    unfold Ieee.Format.word
    split
    · rw [Nat.add_mod_left, Nat.mod_eq_of_lt (by omega)]
    · rw [Nat.mod_eq_of_lt (by omega)]
  unfold Ieee.Format.read
  simp only [e]
  split
  · rfl
  · split
    · rfl
    · have : rung = f.infRung := by omega
      rw [if_pos this]; rfl
theorem nearest_not_nan (f : Ieee.Format) (neg : Bool) (m : Nat) (p : Int) : (f.read (f.nearest neg m p)).isNaN = false := by
  unfold Ieee.Format.nearest
  split
  · exact read_word_not_nan f _ (Nat.zero_le _)
  · exact read_word_not_nan f _ (Nat.min_le_right ..)
theorem write_not_nan (f : Ieee.Format) {d : Ieee.Datum} (h : d.isNaN = false) : (f.read (f.write d)).isNaN = false := by
  cases d with
  | number => exact nearest_not_nan ..
  | infinity => exact read_word_not_nan f _ (Nat.le_refl _)
  | nan => simp [Ieee.Datum.isNaN] at h
theorem sum_not_nan {x y d : Ieee.Datum} (h : x.sum y = some d) : d.isNaN = false := by
  cases x <;> cases y <;> simp [Ieee.Datum.sum] at h <;> first | (obtain ⟨_, rfl⟩ := h; rfl) | (subst h; rfl)
theorem product_not_nan {x y d : Ieee.Datum} (h : x.product y = some d) : d.isNaN = false := by
  cases x <;> cases y <;> simp [Ieee.Datum.product] at h <;> first | (obtain ⟨_, rfl⟩ := h; rfl) | (subst h; rfl)
theorem quotient_not_nan {n : Nat} {x y d : Ieee.Datum} (h : x.quotient n y = some d) : d.isNaN = false := by
  cases x <;> cases y <;> simp [Ieee.Datum.quotient] at h
  case number.number => split at h <;> (try split at h) <;> simp at h <;> subst h <;> rfl
  all_goals (subst h; rfl)
theorem root_not_nan {n : Nat} {x d : Ieee.Datum} (h : x.root n = some d) : d.isNaN = false := by
  cases x <;> simp [Ieee.Datum.root] at h
  case number => split at h <;> (try split at h) <;> simp at h <;> subst h <;> rfl
  all_goals (obtain ⟨_, h⟩ := h; subst h; rfl)
theorem map_write_not_nan {f : Ieee.Format} {o : Option Ieee.Datum} {r : Nat} (hn : ∀ d, o = some d → d.isNaN = false) (h : o.map f.write = some r) : (f.read r).isNaN = false := by
  cases o with
  | none => cases h
  | some d => cases h; exact write_not_nan f (hn d rfl)
theorem floatBits_not_nan {op : BinOp} {k : FloatKind} {x y r : Nat} (h : floatBits op k x y = some r) : isN k r = false := by
  unfold floatBits at h
  unfold isN FloatKind.decode
  split at h
  · exact map_write_not_nan (fun _ => sum_not_nan) h
  · exact map_write_not_nan (fun _ => sum_not_nan) h
  · exact map_write_not_nan (fun _ => product_not_nan) h
  · exact map_write_not_nan (fun _ => quotient_not_nan) h
  · cases h
/-- '+' ¦ '-' ¦ '*' ¦ '/' on words. -/
def fop (op : BinOp) (k : FloatKind) (x y : Nat) : Nat := (floatBits op k x y).getD (qn k)
theorem cn_fop (op : BinOp) (k : FloatKind) (x y : Nat) : cn k (fop op k x y) = fop op k x y := by
  unfold fop
  cases h : floatBits op k x y with
  | none => exact cn_of_isN (isN_qn k)
  | some r => exact cn_of_not (floatBits_not_nan h)
theorem fop_cn (op : BinOp) (k : FloatKind) (x y : Nat) : fop op k (cn k x) (cn k y) = fop op k x y := by unfold fop; rw [floatBits_cn]
/-- The tape's NaN is one. -/
theorem isN_nanBits (k : FloatKind) (x y t : Nat) : isN k (Question.cut (.nanBits k x y) t) = true := by
  have hw : ∀ (f : Ieee.Format) (_ : f.binade ≤ f.infRung) (s : Bool) (r : Nat), f.infRung < r → r < f.signWeight → (f.read (f.word s r)).isNaN = true := by
    intro f hbi s r h1 h2
    have e : f.word s r % f.signWeight = r := by
      unfold Ieee.Format.word
      split
      · rw [Nat.add_mod_left, Nat.mod_eq_of_lt h2]
      · rw [Nat.mod_eq_of_lt h2]
    unfold Ieee.Format.read
    simp only [e]
    rw [if_neg (by omega), if_neg (by omega), if_neg (by omega)]
    rfl
  unfold isN FloatKind.decode
  cases k with
  | f32 =>
    have h := hw Ieee.single (by decide) (t % 2 == 1) (0x7f800000 + 1 + (t / 2) % (2 ^ 23 - 1)) (by simp [Ieee.Format.infRung, Ieee.single, Ieee.Format.binade]; omega) (by simp [Ieee.Format.signWeight, Ieee.single]; omega)
    have e : Question.cut (.nanBits .f32 x y) t = Ieee.single.word (t % 2 == 1) (0x7f800000 + 1 + (t / 2) % (2 ^ 23 - 1)) := by
      simp only [Question.cut, Ieee.Format.word, Ieee.Format.signWeight, Ieee.single]
      split <;> rename_i hb <;> simp at hb <;> omega
    rw [e]; exact h
  | f64 =>
    have h := hw Ieee.double (by decide) (t % 2 == 1) (0x7ff0000000000000 + 1 + (t / 2) % (2 ^ 52 - 1)) (by simp [Ieee.Format.infRung, Ieee.double, Ieee.Format.binade]; omega) (by simp [Ieee.Format.signWeight, Ieee.double]; omega)
    have e : Question.cut (.nanBits .f64 x y) t = Ieee.double.word (t % 2 == 1) (0x7ff0000000000000 + 1 + (t / 2) % (2 ^ 52 - 1)) := by
      simp only [Question.cut, Ieee.Format.word, Ieee.Format.signWeight, Ieee.double]
      split <;> rename_i hb <;> simp at hb <;> omega
    rw [e]; exact h
end Go.Proofs.Ytpnkapdemgieaaa
set_option linter.unusedSimpArgs false
set_option linter.unusedVariables false
set_option linter.unusedSectionVars false
namespace Go.Proofs.Ytpnkapdemgieaaa
open Go Go.RowKit
section
variable {P : Program} {w : World} {a : Addr} {m : Mode}
@[go_sem] theorem run_store_float (k : FloatKind) (b : Nat) : (store a (.float k b) m).run P w = stored P w a (.float k b) m := run_store P w a _ m rfl
@[go_sem] theorem run_store_complex (k : FloatKind) (b c : Nat) : (store a (.complex k b c) m).run P w = stored P w a (.complex k b c) m := run_store P w a _ m rfl
end
def feq (k : FloatKind) (x y : Nat) : Bool := k.format.order x y == some .eq
def flt (k : FloatKind) (x y : Nat) : Bool := k.format.order x y == some .lt
def fle (k : FloatKind) (x y : Nat) : Bool := k.format.order x y == some .lt || k.format.order x y == some .eq
def fgt (k : FloatKind) (x y : Nat) : Bool := k.format.order x y == some .gt
def fge (k : FloatKind) (x y : Nat) : Bool := k.format.order x y == some .gt || k.format.order x y == some .eq
section
variable (t : TypeId) (k : FloatKind) (a b : Nat)
@[go_sem high] theorem cmp_eql : binOp .eql t (.float k a) (.float k b) = pure (.bool (feq k (cn k a) (cn k b))) := by simp [binOp, Op.floatCmp, feq, order_cn]
@[go_sem high] theorem cmp_neq : binOp .neq t (.float k a) (.float k b) = pure (.bool (!feq k (cn k a) (cn k b))) := by simp [binOp, Op.floatCmp, feq, order_cn, bne]
@[go_sem high] theorem cmp_lss : binOp .lss t (.float k a) (.float k b) = pure (.bool (flt k (cn k a) (cn k b))) := by simp [binOp, Op.floatCmp, flt, order_cn]
@[go_sem high] theorem cmp_leq : binOp .leq t (.float k a) (.float k b) = pure (.bool (fle k (cn k a) (cn k b))) := by simp [binOp, Op.floatCmp, fle, order_cn]
@[go_sem high] theorem cmp_gtr : binOp .gtr t (.float k a) (.float k b) = pure (.bool (fgt k (cn k a) (cn k b))) := by simp [binOp, Op.floatCmp, fgt, order_cn]
@[go_sem high] theorem cmp_geq : binOp .geq t (.float k a) (.float k b) = pure (.bool (fge k (cn k a) (cn k b))) := by simp [binOp, Op.floatCmp, fge, order_cn]
end
/-- What a function that only computes leaves: a bool; a float; some draws. -/
def RB (w : World) (b : Bool) (e : Ending) (w' : World) : Prop := e = .returned (.bool b) ∧ ∃ n, w' = w.drewN n
def RF (w : World) (k : FloatKind) (c : Nat) (e : Ending) (w' : World) : Prop := ∃ r, e = .returned (.float k r) ∧ cn k r = c ∧ ∃ n, w' = w.drewN n
def RFB (w : World) (k : FloatKind) (c : Nat) (b : Bool) (e : Ending) (w' : World) : Prop := ∃ r, e = .returned (.tuple #[.float k r, .bool b]) ∧ cn k r = c ∧ ∃ n, w' = w.drewN n
/-- One of the four operations. -/
def arithOp (op : BinOp) : Bool := match op with | .add | .sub | .mul | .quo => true | _ => false
section
variable {P : Program}
theorem run_fop (op : BinOp) (hop : arithOp op = true) (t : TypeId) (k : FloatKind) (x y : Nat) (w : World) :
    ∃ r n, (binOp op t (.float k x) (.float k y)).run P w = .ok (.float k r) (w.drewN n) ∧ cn k r = fop op k (cn k x) (cn k y) := by
  rw [fop_cn]
  cases h : floatBits op k x y with
  | some r => exact ⟨r, 0, run_float_arith w op t k x y r h, by rw [cn_of_not (floatBits_not_nan h)]; simp [fop, h]⟩
  | none =>
    have hr : (binOp op t (.float k x) (.float k y)).run P w = .ok (.float k ((Question.nanBits k x y).cut (w.tape w.drawn (.nanBits k x y)))) (w.drewN 1) := by
      have hf : (Question.nanBits k x y).forced = false := rfl
      cases op <;> simp [arithOp] at hop <;> simp only [floatBits] at h <;> simp [binOp, Op.floatArith, h, hf, World.drew_is_drewN]
    exact ⟨_, 1, hr, by rw [cn_of_isN (isN_nanBits _ _ _ _)]; simp [fop, h]⟩
theorem run_exec_fop {o : Oper} {ρ : Operand → Value} (op : BinOp) (hop : arithOp op = true) (t t' : TypeId) (X Y : Operand) (ho : o.op = .binOp op t X Y t') (k : FloatKind) (x y : Nat) (hx : ρ X = .float k x) (hy : ρ Y = .float k y) (w : World) :
    ∃ r n, (execOp ρ o).run P w = .ok (.value (.float k r)) (w.drewN n) ∧ cn k r = fop op k (cn k x) (cn k y) := by
  obtain ⟨r, n, h1, h2⟩ := run_fop (P := P) op hop t k x y w
  refine ⟨r, n, ?_, h2⟩
  have he : eqGuard op t X Y (.float k x) (.float k y) = pure () := by cases op <;> rfl
  unfold execOp
  rw [ho]
  simp [hx, hy, he, h1, Result.andThen]
theorem at_list {w : World} {ops : Array Oper} {rest : List Oper} {o : Oper} {a : Act} {Q : Exit → Act → World → Prop} (h : wpList P ops Q (o :: rest) a w) : wpList P ops Q (o :: rest) a w := h
theorem at_some {C : World → Prop} {ops : Array Oper} {rest : List Oper} {o : Oper} {a : Act} {Q : Act → Prop} (h : wpSome P ops C Q (o :: rest) a) : wpSome P ops C Q (o :: rest) a := h
/-- '+' ¦ '-' ¦ '*' ¦ '/' in a list of operations. -/
theorem wpList_fop {w : World} {ops : Array Oper} {rest : List Oper} {o : Oper} {a : Act} {Q : Exit → Act → World → Prop} (hg : o.guard = none) {op : BinOp} {t t' : TypeId} {X Y : Operand}
    (ho : o.op = .binOp op t X Y t') (hop : arithOp op = true) {k : FloatKind} {x y : Nat} (hx : a.eval X = .float k x) (hy : a.eval Y = .float k y)
    (h : ∀ r n, (∀ cx cy, cn k x = cx → cn k y = cy → cn k r = fop op k cx cy) → wpList P ops Q rest (a.put o.dst (.float k r)) (w.drewN n)) : wpList P ops Q (o :: rest) a w := by
  obtain ⟨r, n, h1, h2⟩ := run_exec_fop (P := P) op hop t t' X Y ho k x y hx hy w
  refine wpList_plain hg fun K hK => ?_
  unfold Oper.wp
  rw [h1]
  exact hK _ _ (h r n (by rintro cx cy rfl rfl; exact h2))
/-- The same under a guard that has said yes. -/
theorem wpList_fop_g {w : World} {ops : Array Oper} {rest : List Oper} {o : Oper} {a : Act} {Q : Exit → Act → World → Prop} {op : BinOp} {t t' : TypeId} {X Y : Operand}
    (ho : o.op = .binOp op t X Y t') (hop : arithOp op = true) {k : FloatKind} {x y : Nat} (hx : a.eval X = .float k x) (hy : a.eval Y = .float k y) (hw : Region.wanted o (yielded ops a.tmps) = true)
    (h : ∀ r n, (∀ cx cy, cn k x = cx → cn k y = cy → cn k r = fop op k cx cy) → wpList P ops Q rest (a.put o.dst (.float k r)) (w.drewN n)) : wpList P ops Q (o :: rest) a w := by
  obtain ⟨r, n, h1, h2⟩ := run_exec_fop (P := P) op hop t t' X Y ho k x y hx hy w
  refine wpList_step fun K hK => ?_
  rw [if_pos hw]
  unfold Oper.wp
  rw [h1]
  exact hK _ _ (h r n (by rintro cx cy rfl rfl; exact h2))
/-! ### The opposite -/
def fneg (k : FloatKind) (c : Nat) : Nat := if isN k c then qn k else Op.negFloat k c
theorem isN_neg (k : FloatKind) (b : Nat) : isN k (Op.negFloat k b) = isN k b := by
  have key : ∀ (f : Ieee.Format), (f.read (b ^^^ 2 ^ (f.exponentBits + f.fractionBits))).isNaN = (f.read b).isNaN := by
    intro f
    have e : (b ^^^ 2 ^ (f.exponentBits + f.fractionBits)) % f.signWeight = b % f.signWeight := by
      unfold Ieee.Format.signWeight
      rw [Nat.xor_mod_two_pow, Nat.mod_self, Nat.xor_zero]
    unfold Ieee.Format.read
    simp only [e]
    split
    · rfl
    · split
      · rfl
      · split <;> rfl
  cases k <;> exact key _
theorem cn_neg (k : FloatKind) (b : Nat) : cn k (Op.negFloat k b) = fneg k (cn k b) := by
  unfold fneg
  rw [isN_cn]
  by_cases h : isN k b = true
  · rw [if_pos h, cn_of_isN (by rw [isN_neg]; exact h)]
  · have h' : isN k b = false := by simpa using h
    rw [if_neg h, cn_of_not (by rw [isN_neg]; exact h'), cn_of_not h']
theorem wpList_neg {w : World} {ops : Array Oper} {rest : List Oper} {o : Oper} {a : Act} {Q : Exit → Act → World → Prop} (hg : o.guard = none) {t : TypeId} {X : Operand}
    (ho : o.op = .unOp .neg t X) {k : FloatKind} {x : Nat} (hx : a.eval X = .float k x)
    (h : ∀ r, (∀ cx, cn k x = cx → cn k r = fneg k cx) → wpList P ops Q rest (a.put o.dst (.float k r)) w) : wpList P ops Q (o :: rest) a w := by
  refine wpList_plain hg fun K hK => ?_
  unfold Oper.wp
  simp only [execOp, ho, hx]
  simp [Op.unary, Result.andThen]
  exact hK _ _ (h _ (by rintro cx rfl; exact cn_neg k x))
/-! ### Conversions -/
def wide (c : Nat) : Nat := if isN .f32 c then qn .f64 else FloatKind.f64.encode (FloatKind.f32.decode c)
def narrow (c : Nat) : Nat := if isN .f64 c then qn .f32 else FloatKind.f32.encode (FloatKind.f64.decode c)
/-- A 64-bit number that has a nearest 32-bit one: no finite one that is too great. -/
def fits (c : Nat) : Bool := isN .f64 c || (FloatKind.f64.decode c).isInfinity || !(FloatKind.f32.decode (FloatKind.f32.encode (FloatKind.f64.decode c))).isInfinity
theorem isN_nanConv (k : FloatKind) (b t : Nat) : isN k (Question.cut (.nanConv k b) t) = true := by
  have h := isN_nanBits k b b t
  cases k <;> exact h
theorem enc_not_nan (k : FloatKind) {d : Ieee.Datum} (h : d.isNaN = false) : isN k (k.encode d) = false := write_not_nan k.format h
theorem wide_cn (x : Nat) : wide (cn .f32 x) = wide x := by
  unfold wide
  by_cases h : isN .f32 x = true
  · rw [isN_cn, if_pos h, if_pos h]
  · rw [cn_of_not (by simpa using h)]
theorem narrow_cn (x : Nat) : narrow (cn .f64 x) = narrow x := by
  unfold narrow
  by_cases h : isN .f64 x = true
  · rw [isN_cn, if_pos h, if_pos h]
  · rw [cn_of_not (by simpa using h)]
theorem cn_wide (x : Nat) : cn .f64 (wide x) = wide x := by
  unfold wide
  split
  · exact cn_of_isN (isN_qn _)
  · rename_i h; exact cn_of_not (enc_not_nan _ (by simpa [isN] using h))
theorem cn_narrow (x : Nat) : cn .f32 (narrow x) = narrow x := by
  unfold narrow
  split
  · exact cn_of_isN (isN_qn _)
  · rename_i h; exact cn_of_not (enc_not_nan _ (by simpa [isN] using h))
theorem run_convF (s d : FloatKind) (hsd : s ≠ d) (src dst : TypeId) (x : Nat) (hs : P.underlying src = some (.float s)) (hd : P.underlying dst = some (.float d)) (w : World)
    (hfit : isN s x = true ∨ (s.decode x).isInfinity = true ∨ (d.decode (d.encode (s.decode x))).isInfinity = false) :
    ∃ r n, (convert src dst (.float s x)).run P w = .ok (.float d r) (w.drewN n) ∧ cn d r = if isN s x then qn d else d.encode (s.decode x) := by
  by_cases h : isN s x = true
  · obtain ⟨sg, tt, e⟩ := decode_nan h
    have e' : s.decode x = .nan sg tt := e
    have hf : (Question.nanConv d x).forced = false := rfl
    refine ⟨(Question.nanConv d x).cut (w.tape w.drawn (.nanConv d x)), 1, ?_, by rw [if_pos h, cn_of_isN (isN_nanConv _ _ _)]⟩
    simp [convert, run_underlying hs, run_underlying hd, Conv.floatToFloat, hsd, e', hf, World.drew_is_drewN]
  · rw [if_neg h]
    rcases hfit with h' | h' | h'
    · exact absurd h' h
    · have hb : floatToFloatBits s x d = some (d.encode (s.decode x)) := by
        unfold floatToFloatBits
        rw [if_neg hsd]
        cases hdd : s.decode x <;> simp_all [Ieee.Datum.isInfinity]
      exact ⟨_, 0, run_convert_float_float w src dst s d x _ (by rw [hs]; rfl) hd hb, cn_of_not (enc_not_nan _ (by simpa [isN] using h))⟩
    · have hb : floatToFloatBits s x d = some (d.encode (s.decode x)) := by
        unfold floatToFloatBits
        rw [if_neg hsd]
        cases hdd : s.decode x with
        | nan => rw [isN, hdd] at h; exact absurd rfl h
        | infinity => rfl
        | number => rw [hdd] at h'; simp only [h']; rfl
      exact ⟨_, 0, run_convert_float_float w src dst s d x _ (by rw [hs]; rfl) hd hb, cn_of_not (enc_not_nan _ (by simpa [isN] using h))⟩
theorem cut_zero (way : Ieee.Toward) (s : Bool) (n : Nat) : way.cut s n 0 = n := by
  have h0 : min 0 (n.log2 + 2) = 0 := by omega
  cases way <;> simp [Ieee.Toward.cut, h0, Nat.mod_one]
theorem shl_log2_lt (m k : Nat) : m <<< k < 2 ^ (m.log2 + k + 1) := by
  rw [Nat.shiftLeft_eq]
  have h1 : m < 2 ^ (m.log2 + 1) := Nat.lt_log2_self
  calc m * 2 ^ k < 2 ^ (m.log2 + 1) * 2 ^ k := Nat.mul_lt_mul_of_pos_right h1 (Nat.two_pow_pos _)
    _ = 2 ^ (m.log2 + k + 1) := by rw [← Nat.pow_add]; congr 1; omega
theorem read_word_small (f : Ieee.Format) (neg : Bool) {rung : Nat} (h : rung < f.infRung) : (f.read (f.word neg rung)).isInfinity = false := by
  have hlt : f.infRung < f.signWeight := f.infRung_lt
  have e : f.word neg rung % f.signWeight = rung := by
    unfold Ieee.Format.word
    split
    · rw [Nat.add_mod_left, Nat.mod_eq_of_lt (by omega)]
    · rw [Nat.mod_eq_of_lt (by omega)]
  unfold Ieee.Format.read
  simp only [e]
  split
  · rfl
  · first | rfl | (rw [if_pos h]; rfl)
theorem decode_single (x : Nat) : FloatKind.f32.decode x = if x % 2147483648 < 8388608 then .number (x / 2147483648 % 2 == 1) (x % 2147483648) (-149)
    else if x % 2147483648 < 2139095040 then .number (x / 2147483648 % 2 == 1) (8388608 + x % 2147483648 % 8388608) (-149 + ((x % 2147483648 / 8388608 - 1 : Nat) : Int))
    else if x % 2147483648 = 2139095040 then .infinity (x / 2147483648 % 2 == 1) else .nan (x / 2147483648 % 2 == 1) (x % 2147483648 - 2139095040) := rfl
theorem single_place {x : Nat} {s : Bool} {m : Nat} {p : Int} (h : FloatKind.f32.decode x = .number s m p) : m < 2 ^ 24 ∧ -149 ≤ p ∧ p ≤ 104 := by
  rw [decode_single] at h
  by_cases c1 : x % 2147483648 < 8388608
  · rw [if_pos c1] at h; simp only [Ieee.Datum.number.injEq] at h; omega
  · rw [if_neg c1] at h
    by_cases c2 : x % 2147483648 < 2139095040
    · rw [if_pos c2] at h; simp only [Ieee.Datum.number.injEq] at h; omega
    · rw [if_neg c2] at h
      by_cases c3 : x % 2147483648 = 2139095040
      · rw [if_pos c3] at h; cases h
      · rw [if_neg c3] at h; cases h
/-- A 32-bit number has a 64-bit one. -/
theorem wide_fits (x : Nat) : isN .f32 x = true ∨ (FloatKind.f32.decode x).isInfinity = true ∨ (FloatKind.f64.decode (FloatKind.f64.encode (FloatKind.f32.decode x))).isInfinity = false := by
  unfold isN
  cases h : FloatKind.f32.decode x with
  | nan => exact .inl rfl
  | infinity => exact .inr (.inl rfl)
  | number s m p =>
    refine .inr (.inr ?_)
    obtain ⟨hm, hp0, hp1⟩ := single_place h
    show (Ieee.double.read (Ieee.double.nearest s m p)).isInfinity = false
    unfold Ieee.Format.nearest
    by_cases hm0 : m = 0
    · rw [if_pos hm0]; exact read_word_small _ _ (by decide)
    · rw [if_neg hm0]
      have hl : m.log2 < 24 := (Nat.log2_lt hm0).2 hm
      have hlast : max (p + (m.log2 : Int) - (Ieee.double.fractionBits : Int)) Ieee.double.leastPlace = p + m.log2 - 52 := by
        simp only [Ieee.double, Ieee.Format.leastPlace]; omega
      simp only [hlast]
      have e1 : (p + (m.log2 : Int) - 52 - p).toNat = 0 := by omega
      have e2 : (p - (p + (m.log2 : Int) - 52)).toNat = 52 - m.log2 := by omega
      rw [e1, e2, cut_zero]
      refine read_word_small _ _ ?_
      have hk := shl_log2_lt m (52 - m.log2)
      rw [show m.log2 + (52 - m.log2) + 1 = 53 from by omega] at hk
      have hr : (p + (m.log2 : Int) - 52 - Ieee.double.leastPlace).toNat ≤ 1150 := by simp only [Ieee.double, Ieee.Format.leastPlace]; omega
      have hb : Ieee.double.binade = 2 ^ 52 := rfl
      have hi : Ieee.double.infRung = 2047 * 2 ^ 52 := rfl
      rw [hi, hb]
      have hmul : (p + (m.log2 : Int) - 52 - Ieee.double.leastPlace).toNat * 2 ^ 52 ≤ 1150 * 2 ^ 52 := Nat.mul_le_mul_right _ hr
      refine Nat.lt_of_le_of_lt (Nat.min_le_left ..) ?_
      omega
/-- 'float64(x)' of a float32. -/
theorem wpList_wide {w : World} {ops : Array Oper} {rest : List Oper} {o : Oper} {a : Act} {Q : Exit → Act → World → Prop} (hg : o.guard = none) {src dst : TypeId} {X : Operand}
    (ho : o.op = .convert src dst X) {x : Nat} (hx : a.eval X = .float .f32 x) (hs : P.underlying src = some (.float .f32)) (hd : P.underlying dst = some (.float .f64))
    (h : ∀ r n, (∀ cx, cn .f32 x = cx → cn .f64 r = wide cx) → wpList P ops Q rest (a.put o.dst (.float .f64 r)) (w.drewN n)) : wpList P ops Q (o :: rest) a w := by
  obtain ⟨r, n, h1, h2⟩ := run_convF (P := P) .f32 .f64 (by decide) src dst x hs hd w (wide_fits x)
  refine wpList_plain hg fun K hK => ?_
  unfold Oper.wp
  simp only [execOp, ho, hx]
  simp [h1, Result.andThen]
  exact hK _ _ (h r n (by rintro cx rfl; rw [h2, wide_cn]; rfl))
/-- The same under a guard that has said yes. -/
theorem wpList_wide_g {w : World} {ops : Array Oper} {rest : List Oper} {o : Oper} {a : Act} {Q : Exit → Act → World → Prop} {src dst : TypeId} {X : Operand}
    (ho : o.op = .convert src dst X) {x : Nat} (hx : a.eval X = .float .f32 x) (hs : P.underlying src = some (.float .f32)) (hd : P.underlying dst = some (.float .f64)) (hw : Region.wanted o (yielded ops a.tmps) = true)
    (h : ∀ r n, (∀ cx, cn .f32 x = cx → cn .f64 r = wide cx) → wpList P ops Q rest (a.put o.dst (.float .f64 r)) (w.drewN n)) : wpList P ops Q (o :: rest) a w := by
  obtain ⟨r, n, h1, h2⟩ := run_convF (P := P) .f32 .f64 (by decide) src dst x hs hd w (wide_fits x)
  refine wpList_step fun K hK => ?_
  rw [if_pos hw]
  unfold Oper.wp
  simp only [execOp, ho, hx]
  simp [h1, Result.andThen]
  exact hK _ _ (h r n (by rintro cx rfl; rw [h2, wide_cn]; rfl))
/-- 'float32(x)' of a float64 that fits. -/
theorem wpList_narrow {w : World} {ops : Array Oper} {rest : List Oper} {o : Oper} {a : Act} {Q : Exit → Act → World → Prop} (hg : o.guard = none) {src dst : TypeId} {X : Operand}
    (ho : o.op = .convert src dst X) {x : Nat} (hx : a.eval X = .float .f64 x) (hs : P.underlying src = some (.float .f64)) (hd : P.underlying dst = some (.float .f32)) {cx : Nat} (hcx : cn .f64 x = cx) (hfit : fits cx = true)
    (h : ∀ r n, cn .f32 r = narrow cx → wpList P ops Q rest (a.put o.dst (.float .f32 r)) (w.drewN n)) : wpList P ops Q (o :: rest) a w := by
  have hf : isN .f64 x = true ∨ (FloatKind.f64.decode x).isInfinity = true ∨ (FloatKind.f32.decode (FloatKind.f32.encode (FloatKind.f64.decode x))).isInfinity = false := by
    by_cases hn : isN .f64 x = true
    · exact .inl hn
    · rw [← hcx, cn_of_not (by simpa using hn)] at hfit
      simp only [fits, Bool.or_eq_true, Bool.not_eq_true'] at hfit
      rcases hfit with (h | h) | h
      · exact .inl h
      · exact .inr (.inl h)
      · exact .inr (.inr h)
  obtain ⟨r, n, h1, h2⟩ := run_convF (P := P) .f64 .f32 (by decide) src dst x hs hd w hf
  refine wpList_plain hg fun K hK => ?_
  unfold Oper.wp
  simp only [execOp, ho, hx]
  simp [h1, Result.andThen]
  exact hK _ _ (h r n (by rw [h2, ← hcx, narrow_cn]; rfl))
/-! ### In a region that draws its order -/
theorem someOf_of_quiet {C : World → Prop} {o : Oper} {a : Act} {K : Act → Prop} (h : o.quiet P a C K) : someOf P C o a K := by
  obtain ⟨v, h1, h2⟩ := h
  refine ⟨true, v, fun w hw => ?_, fun u hu => by simp only [inS, if_true] at hu; rw [hu]; exact h2⟩
  have h3 := h1 w hw
  unfold Oper.quietAt at h3
  cases hr : (execOp a.eval o).run P w with
  | ok n w' =>
    rw [hr] at h3
    cases n <;> simp only [Oper.quietUpon] at h3
    case value u => obtain ⟨rfl, rfl⟩ := h3; exact ⟨hw, inS_refl _ _⟩
    case skip => obtain ⟨rfl, rfl⟩ := h3; exact ⟨hw, inS_refl _ _⟩
    case enter f args =>
      obtain ⟨rfl, hc⟩ := h3
      exact hc.mono fun e w'' ⟨he, hC⟩ => ⟨v, he, inS_refl _ _, hC⟩
  | halt x w' => rw [hr] at h3; simp only [Oper.quietUpon] at h3
/-- One operation that the guide's quiet walk can run. -/
theorem wpSome_one {ops : Array Oper} {C : World → Prop} {Q : Act → Prop} {a : Act} {o : Oper} {rest : List Oper}
    (h : wpQuiet P ops C (fun a' => wpSome P ops C Q rest a') [o] a) : wpSome P ops C Q (o :: rest) a := by
  refine wpSome_cons ?_
  simp only [wpQuiet] at h
  split
  · rename_i hw; rw [if_pos hw] at h; exact someOf_of_quiet h
  · rename_i hw; rw [if_neg hw] at h; exact h
theorem norm_float {k : FloatKind} {c : Nat} (hc : cn k c = c) {v : Value} (h : inS false (.float k c) v) : ∃ r, v = .float k r ∧ cn k r = c := by
  simp only [inS, Bool.false_eq_true, if_false] at h
  cases v <;> simp [norm, norm1, hc] at h
  case float k' r => obtain ⟨rfl, h2⟩ := h; exact ⟨r, rfl, h2⟩
theorem wpSome_fop {w : World} {ops : Array Oper} {rest : List Oper} {o : Oper} {a : Act} {Q : Act → Prop} {op : BinOp} {t t' : TypeId} {X Y : Operand}
    (ho : o.op = .binOp op t X Y t') (hop : arithOp op = true) {k : FloatKind} {x y : Nat} (hx : a.eval X = .float k x) (hy : a.eval Y = .float k y) (hw : Region.wanted o (yielded ops a.tmps) = true)
    (h : ∀ r, (∀ cx cy, cn k x = cx → cn k y = cy → cn k r = fop op k cx cy) → wpSome P ops (fun w2 => ∃ n, w2 = w.drewN n) Q rest (a.put o.dst (.float k r))) : wpSome P ops (fun w2 => ∃ n, w2 = w.drewN n) Q (o :: rest) a := by
  refine wpSome_cons ?_
  rw [if_pos hw]
  refine ⟨false, .float k (fop op k (cn k x) (cn k y)), fun w' hC => ?_, fun v hv => ?_⟩
  · obtain ⟨m, rfl⟩ := hC
    obtain ⟨r, n, h1, h2⟩ := run_exec_fop (P := P) op hop t t' X Y ho k x y hx hy (w.drewN m)
    rw [h1]
    exact ⟨⟨m + n, by rw [World.drewN_drewN]⟩, by simp [inS, norm, norm1, h2, cn_fop]⟩
  · obtain ⟨r, rfl, hr⟩ := norm_float (cn_fop _ _ _ _) hv
    exact h r (by rintro cx cy rfl rfl; exact hr)
end
end Go.Proofs.Ytpnkapdemgieaaa
set_option linter.unusedSimpArgs false
set_option linter.unusedVariables false
set_option linter.unusedSectionVars false
namespace Go.Proofs.Ytpnkapdemgieaaa
open Go Go.RowKit
open Go.ChangeShapes Go.WideShapes Go.ChangeAt Go.RowKit Go.Joins
set_option maxRecDepth 100000 in
theorem own : ownKnob Try.prog.godebug = none := by kernel_rfl
/-- What a function that makes memory leaves: a value; nothing that was there has turned. -/
def BV (w : World) (v : Value) (e : Ending) (w' : World) : Prop := e = .returned v ∧ Below w.heap.size w w'
theorem below_then {w b c : World} (h1 : Below w.heap.size w b) (h2 : Below b.heap.size b c) : Below w.heap.size w c := h1.trans (h2.mono h1.size)
theorem below_alloc {w b : World} (h : Below w.heap.size w b) (o : Obj) : Below w.heap.size w (b.alloc o) := h.alloc h.size _
theorem free_later {w wx : World} {a : Addr} {v : Value} (hb : Below w.heap.size w wx) (h : w.cell? a = some v) (hf : w.frozen? a = false) : wx.frozen? a = false :=
  (hb.frozen (World.block_lt_of_cell? _ _ h)).trans hf
/-! ### A region that draws its order and whose calls make memory: what lies below 'W' and some cells stay -/
def Kp (W : World) (cs : List (Addr × Value)) (w' : World) : Prop := Below W.heap.size W w' ∧ ∀ c ∈ cs, w'.cell? c.1 = some c.2
theorem Kp.later {W w w' : World} {cs : List (Addr × Value)} (h : Kp W cs w) (hb : Below w.heap.size w w') : Kp W cs w' :=
  ⟨below_then h.1 hb, fun c hc => cell_later hb (h.2 c hc)⟩
section
variable {P : Program} {ops : Array Oper} {a : Act} {o : Oper} {rest : List Oper}
end
set_option maxRecDepth 100000 in
theorem laidOut : laidOutB Try.prog = true := by kernel_rfl
section
variable {H : Type} {enc : TypeId × Value → H} {P : Program} {w : World} {base : Nat} {spare : Nat → Bool} {held : Bool}
end
/-- Six 32-bit numbers of a stuff. -/
structure St where
  a : Nat
  b : Nat
  c : Nat
  d : Nat
  p : Nat
  l : Nat
end Go.Proofs.Ytpnkapdemgieaaa
set_option linter.unusedSimpArgs false
set_option linter.unusedVariables false
set_option linter.unusedSectionVars false
namespace Go.Proofs.Ytpnkapdemgieaaa
open Go Go.RowKit
/-- What is told of an operation's value: its class, and what the world has of it (both of the operands' values). Mode 0: the operation asks nothing of the world and leaves it; 1: it makes memory; 2: it writes, and others that ask the world stand ahead of it or behind it. -/
structure Clm where
  mode : Nat
  S : List Value → Value → Prop
  K : List Value → Value → World → Prop
  ex : ∀ x, ∃ v, S x v
  keeps : ∀ x v w w', K x v w → Below w.heap.size w w' → K x v w'
  quiet : mode = 0 → ∀ x v w, K x v w
section
variable {P : Program} {ops : Array Oper} {Q : Exit → Act → World → Prop} {W : World}
def uponC (P : Program) (T : Value → World → Prop) : Result Next → Prop
  | .ok (.value u) w' => T u w'
  | .ok .skip w' => T undef w'
  | .ok (.enter f args) w' => Calls P f args w' (fun e w'' => ∃ v, e = .returned v ∧ T v w'')
  | _ => False
def depB (o : Oper) (j : Nat) : Bool := o.after.toList.any fun e => e.on == j && Region.binds .any e
theorem depB_iff {o : Oper} {j : Nat} : depB o j = true ↔ ∃ k, ∃ h : k < o.after.size, (o.after[k].on == j && Region.binds .any o.after[k]) = true := by
  unfold depB
  rw [List.any_eq_true]
  constructor
  · rintro ⟨e, he, h⟩
    obtain ⟨k, hk, rfl⟩ := Array.mem_iff_getElem.1 (Array.mem_toList_iff.1 he)
    exact ⟨k, hk, h⟩
  · rintro ⟨k, hk, h⟩
    exact ⟨_, Array.mem_toList_iff.2 (Array.getElem_mem hk), h⟩
/-- The claims on the operations that one waits for; all claims. -/
def depK (o : Oper) : List (Nat × (World → Prop)) → World → Prop
  | [], _ => True
  | p :: ks, w => (match depB o p.1 with | true => p.2 w | false => True) ∧ depK o ks w
def allK : List (Nat × (World → Prop)) → World → Prop
  | [], _ => True
  | p :: ks, w => p.2 w ∧ allK ks w
/-- The temporaries of the operations that one waits for; its operands' values, and theirs. -/
def depT (ops : Array Oper) (o : Oper) : List Nat := (List.range ops.size).filterMap fun j => match depB o j with | true => (ops[j]?).bind (·.dst) | false => none
def oargs (ops : Array Oper) (o : Oper) (a : Act) : List Value := o.op.operands.toList.map a.eval ++ (depT ops o).map fun t => a.eval (.tmp t)
def stepC (P : Program) (ops : Array Oper) (W : World) (o : Oper) (c : Clm) (ks : List (Nat × (World → Prop))) (a : Act) : Prop :=
  (Region.wanted o (yielded ops a.tmps) = true ∧
    (c.mode = 0 → ∀ w, uponC P (fun u w' => (∃ n, w' = w.drewN n) ∧ c.S (o.op.operands.toList.map a.eval) u) ((execOp a.eval o).run P w)) ∧
    (c.mode ≠ 0 → ∀ w, Below W.heap.size W w → depK o ks w → uponC P (fun u w' => (c.mode ≠ 2 → Below w.heap.size w w') ∧ Below W.heap.size W w' ∧ c.S (o.op.operands.toList.map a.eval) u ∧ c.K (oargs ops o a) u w') ((execOp a.eval o).run P w))) ∨
  (Region.wanted o (yielded ops a.tmps) = false ∧ c.mode = 0 ∧ c.S (o.op.operands.toList.map a.eval) undef)
def nextK (c : Clm) (i : Nat) (k : World → Prop) (ks : List (Nat × (World → Prop))) : List (Nat × (World → Prop)) :=
  match c.mode with | 0 => ks | 2 => [(i, k)] | _ => (i, k) :: ks
/-- From operation m on they come one behind the other, and behind all others. -/
def tailB (ops : Array Oper) (m : Nat) : Bool := ((List.range m).all fun j => (List.range (m + 1)).any fun k => decide (j < k) && ((ops[k]?).map (depB · j)).getD false) && ((List.range ops.size).all fun k => decide (k ≤ m) || ((ops[k]?).map (depB · (k - 1))).getD false)
/-- The walk in the order of the text. -/
def wpC (P : Program) (ops : Array Oper) (Q : Exit → Act → World → Prop) (W : World) : List Oper → List Clm → Nat → List (Nat × (World → Prop)) → Act → Prop
  | [], [], _, ks, a => ∀ w, Below W.heap.size W w → allK ks w → Q .normal a w
  | _ :: _, [], i, ks, a => tailB ops i = true ∧ ∀ w, Below W.heap.size W w → allK ks w → wpOps P ops Q (List.range' i (ops.size - i)) a w
  | o :: l, c :: cs, i, ks, a => stepC P ops W o c ks a ∧ ∀ v, c.S (o.op.operands.toList.map a.eval) v → wpC P ops Q W l cs (i + 1) (nextK c i (c.K (oargs ops o a) v) ks) (a.put o.dst v)
  | _, _, _, _, _ => False
def puts (V : Nat → Value) (D : Nat → Bool) : List Oper → Nat → Act → Act
  | [], _, a => a
  | o :: l, i, a => puts V D l (i + 1) (if D i then a.put o.dst (V i) else a)
theorem puts_congr {V V' : Nat → Value} {D D' : Nat → Bool} : ∀ (l : List Oper) (i : Nat) (a : Act), (∀ k, i ≤ k → k < i + l.length → D k = D' k ∧ (D k = true → V k = V' k)) → puts V D l i a = puts V' D' l i a
  | [], _, _, _ => rfl
  | o :: l, i, a, h => by
    have h0 := h i (Nat.le_refl _) (by simp)
    have : (if D i then a.put o.dst (V i) else a) = (if D' i then a.put o.dst (V' i) else a) := by
      rw [← h0.1]
      cases hd : D i with
      | false => rfl
      | true => simp [h0.2 hd]
    simp only [puts]
    rw [this]
    exact puts_congr l (i + 1) _ fun k h1 h2 => h k (by omega) (by simp only [List.length_cons]; omega)
theorem puts_none {V : Nat → Value} {D : Nat → Bool} : ∀ (l : List Oper) (i : Nat) (a : Act), (∀ k, i ≤ k → D k = false) → puts V D l i a = a
  | [], _, _, _ => rfl
  | o :: l, i, a, h => by
    simp only [puts, h i (Nat.le_refl _), Bool.false_eq_true, if_false]
    exact puts_none l (i + 1) a fun k hk => h k (by omega)
theorem puts_comm {V : Nat → Value} {D : Nat → Bool} {x : Option Tmp} {u : Value} : ∀ (l : List Oper) (i : Nat) (a : Act), (∀ o ∈ l, ∀ d, x = some d → o.dst ≠ some d) → puts V D l i (a.put x u) = (puts V D l i a).put x u
  | [], _, _, _ => rfl
  | o :: l, i, a, h => by
    simp only [puts]
    have h0 := h o (by simp)
    have : (if D i then (a.put x u).put o.dst (V i) else a.put x u) = (if D i then a.put o.dst (V i) else a).put x u := by
      cases D i with
      | false => rfl
      | true => exact Act.put_comm a u (V i) h0
    rw [this]
    exact puts_comm l (i + 1) _ fun o' ho' => h o' (by simp [ho'])
theorem puts_put {V : Nat → Value} {D : Nat → Bool} {u : Value} {o : Oper} : ∀ (l : List Oper) (i j : Nat) (a : Act), l[j]? = some o → D (i + j) = false → (∀ k o', l[k]? = some o' → k ≠ j → ∀ d, o.dst = some d → o'.dst ≠ some d) →
    (puts V D l i a).put o.dst u = puts (fun k => if k = i + j then u else V k) (fun k => k == i + j || D k) l i a
  | [], _, _, _, h, _, _ => by simp at h
  | o' :: l, i, 0, a, h, hD, hd => by
    simp only [List.getElem?_cons_zero, Option.some.injEq] at h
    subst h
    simp only [Nat.add_zero] at hD ⊢
    simp only [puts, hD, Bool.false_eq_true, if_false, BEq.rfl, Bool.true_or, if_true]
    rw [← puts_comm l (i + 1) a (u := u) (x := o'.dst) (V := V) (D := D)]
    · exact puts_congr l (i + 1) _ fun k h1 h2 => by
        have : k ≠ i := by omega
        simp [this]
    · intro o'' ho'' d hx
      obtain ⟨k, hk, rfl⟩ := List.getElem_of_mem ho''
      exact hd (k + 1) l[k] (by simp [hk]) (by simp) d hx
  | o' :: l, i, j + 1, a, h, hD, hd => by
    simp only [List.getElem?_cons_succ] at h
    simp only [puts]
    have e : i + (j + 1) = i + 1 + j := by omega
    rw [e] at hD ⊢
    have hi : i ≠ i + 1 + j := by omega
    have hb : (i == i + 1 + j) = false := by simpa using hi
    simp only [hb, Bool.false_or, if_neg hi]
    exact puts_put l (i + 1) j _ h hD fun k o'' hk hne => hd (k + 1) o'' (by simpa using hk) (by omega)
theorem put_look {x y : Act} {t : Nat} {d : Option Tmp} {v v' : Value} (h : x.tmps[t]? = y.tmps[t]?) (hv : d = some t → v = v') : (x.put d v).tmps[t]? = (y.put d v').tmps[t]? := by
  cases d with
  | none => exact h
  | some d =>
    simp only [Act.put]
    by_cases hd : d = t
    · subst hd
      rw [hv rfl]
      simp only [Array.getElem?_setIfInBounds_self]
      by_cases hx : d < x.tmps.size
      · have : d < y.tmps.size := by
          rcases Nat.lt_or_ge d y.tmps.size with h' | h'
          · exact h'
          · rw [Array.getElem?_eq_none h', Array.getElem?_eq_getElem hx] at h; cases h
        simp [hx, this]
      · have : ¬ d < y.tmps.size := by
          intro h'
          rw [Array.getElem?_eq_none (xs := x.tmps) (Nat.le_of_not_lt hx), Array.getElem?_eq_getElem h'] at h; cases h
        simp [hx, this]
    · rw [Array.getElem?_setIfInBounds_ne hd, Array.getElem?_setIfInBounds_ne hd]; exact h
theorem put_skip {x y : Act} {t : Nat} {d : Option Tmp} {v : Value} (h : x.tmps[t]? = y.tmps[t]?) (hd : d ≠ some t) : (x.put d v).tmps[t]? = y.tmps[t]? := by
  cases d with
  | none => exact h
  | some d =>
    simp only [Act.put]
    rw [Array.getElem?_setIfInBounds_ne (by simpa using hd)]; exact h
theorem puts_look {V V' : Nat → Value} {D D' : Nat → Bool} {t : Nat} : ∀ (l : List Oper) (i : Nat) (x y : Act), (∀ k o, l[k]? = some o → o.dst = some t → D (i + k) = D' (i + k) ∧ (D (i + k) = true → V (i + k) = V' (i + k))) → x.tmps[t]? = y.tmps[t]? →
    (puts V D l i x).tmps[t]? = (puts V' D' l i y).tmps[t]?
  | [], _, _, _, _, h => h
  | o :: l, i, x, y, hk, h => by
    simp only [puts]
    refine puts_look l (i + 1) _ _ (fun k o' h1 h2 => by have := hk (k + 1) o' (by simpa using h1) h2; simpa [Nat.add_assoc, Nat.add_comm 1 k] using this) ?_
    by_cases hd : o.dst = some t
    · have := hk 0 o (by simp) hd
      simp only [Nat.add_zero] at this
      rw [← this.1]
      cases hDi : D i with
      | false => exact h
      | true => rw [← this.2 hDi]; exact put_look h fun _ => rfl
    · cases D i <;> cases D' i <;> simp only [if_true, Bool.false_eq_true, if_false]
      · exact h
      · exact (put_skip h.symm hd).symm
      · exact put_skip h hd
      · have h1 : (x.put o.dst (V i)).tmps[t]? = x.tmps[t]? := put_skip rfl hd
        have h2 : (y.put o.dst (V' i)).tmps[t]? = y.tmps[t]? := put_skip rfl hd
        rw [h1, h2]; exact h
theorem opn_look {o : Oper} {x y : Act} (h : ∀ t ∈ o.looksAt ops, x.tmps[t]? = y.tmps[t]?) : o.op.operands.toList.map x.eval = o.op.operands.toList.map y.eval := by
  refine List.map_congr_left fun z hz => ?_
  cases z with
  | tmp t =>
    have := h t (List.mem_append_left _ (List.mem_filterMap.2 ⟨.tmp t, by simpa using hz, rfl⟩))
    simp [Act.eval, this]
  | _ => rfl
theorem exec_look {o : Oper} {x y : Act} (hs : ∀ cs b, o.op ≠ .select cs b) (h : ∀ t ∈ o.looksAt ops, x.tmps[t]? = y.tmps[t]?) :
    execOp x.eval o = execOp y.eval o ∧ Region.wanted o (yielded ops x.tmps) = Region.wanted o (yielded ops y.tmps) := by
  constructor
  · refine execOp_congr o hs fun z hz => ?_
    cases z with
    | tmp t =>
      have := h t (List.mem_append_left _ (List.mem_filterMap.2 ⟨.tmp t, by simpa using hz, rfl⟩))
      simp [Act.eval, this]
    | _ => rfl
  · unfold Region.wanted
    cases hg : o.guard with
    | none => rfl
    | some gw =>
      obtain ⟨g, want⟩ := gw
      have hy : yielded ops x.tmps g = yielded ops y.tmps g := by
        unfold yielded
        cases ht : (ops[g]?).bind (·.dst) with
        | none => rfl
        | some t =>
          have := h t (by simp [Oper.looksAt, hg, ht])
          simp [this]
      simp only [hy]
def opn (V : Nat → Value) (l : List Oper) (i : Nat) (a : Act) (j : Nat) (o : Oper) : List Value := o.op.operands.toList.map (puts V (fun k => decide (k < i + j)) l i a).eval
theorem opn_succ {V : Nat → Value} {o : Oper} {l : List Oper} {i : Nat} {a : Act} {j : Nat} {o' : Oper} : opn V (o :: l) i a (j + 1) o' = opn V l (i + 1) (a.put o.dst (V i)) j o' := by
  unfold opn
  simp only [puts, show i + (j + 1) = i + 1 + j by omega, show i < i + 1 + j by omega, decide_true, if_true]
theorem opn_zero {V : Nat → Value} {l : List Oper} {i : Nat} {a : Act} {o' : Oper} : opn V l i a 0 o' = o'.op.operands.toList.map a.eval := by
  unfold opn
  rw [puts_none l i a fun k hk => by simpa using hk]
def opx (ops : Array Oper) (V : Nat → Value) (l : List Oper) (i : Nat) (a : Act) (j : Nat) (o : Oper) : List Value := oargs ops o (puts V (fun k => decide (k < i + j)) l i a)
theorem opx_succ {V : Nat → Value} {o : Oper} {l : List Oper} {i : Nat} {a : Act} {j : Nat} {o' : Oper} : opx ops V (o :: l) i a (j + 1) o' = opx ops V l (i + 1) (a.put o.dst (V i)) j o' := by
  unfold opx
  simp only [puts, show i + (j + 1) = i + 1 + j by omega, show i < i + 1 + j by omega, decide_true, if_true]
theorem opx_zero {V : Nat → Value} {l : List Oper} {i : Nat} {a : Act} {o' : Oper} : opx ops V l i a 0 o' = oargs ops o' a := by
  unfold opx
  rw [puts_none l i a fun k hk => by simpa using hk]
def valid (V : Nat → Value) (l : List Oper) (cs : List Clm) (i : Nat) (a : Act) : Prop := ∀ (k : Nat) (o : Oper) (c : Clm), l[k]? = some o → cs[k]? = some c → c.S (opn V l i a k o) (V (i + k))
/-- The claims that still stand. -/
def stands (ops : Array Oper) (V : Nat → Value) (l : List Oper) (cs : List Clm) (i : Nat) (a : Act) (w : World) (n : Nat) (X : Nat → Prop) : Prop :=
  ∀ (k : Nat) (o : Oper) (c : Clm), k < n → l[k]? = some o → cs[k]? = some c → X (i + k) → (∀ (b : Nat) (cb : Clm), k < b → b < n → cs[b]? = some cb → cb.mode ≠ 2) → c.K (opx ops V l i a k o) (V (i + k)) w
theorem stands_tail {V : Nat → Value} {o : Oper} {l : List Oper} {c : Clm} {cs : List Clm} {i : Nat} {a : Act} {w : World} {n : Nat} {X : Nat → Prop} (h : stands ops V (o :: l) (c :: cs) i a w (n + 1) X) : stands ops V l cs (i + 1) (a.put o.dst (V i)) w n X := by
  intro k o' c' hk ho hc hX hb
  have := h (k + 1) o' c' (by omega) (by simpa using ho) (by simpa using hc) (by simpa [Nat.add_assoc, Nat.add_comm 1 k] using hX) (fun b cb h1 h2 h3 => by
    obtain ⟨b, rfl⟩ : ∃ b', b = b' + 1 := ⟨b - 1, by omega⟩
    exact hb b cb (by omega) (by omega) (by simpa using h3))
  rw [opx_succ] at this
  simpa [Nat.add_assoc, Nat.add_comm 1 k] using this
theorem nextK_dep {o : Oper} {c : Clm} {i : Nat} {k : World → Prop} {ks : List (Nat × (World → Prop))} {w : World} (h1 : depB o i = true → k w) (h2 : c.mode ≠ 2 → depK o ks w) : depK o (nextK c i k ks) w := by
  have h3 : (match depB o i with | true => k w | false => True) := by
    cases hd : depB o i with
    | false => trivial
    | true => exact h1 hd
  unfold nextK
  split
  · exact h2 (by omega)
  · exact ⟨h3, trivial⟩
  · exact ⟨h3, h2 (by assumption)⟩
theorem nextK_all {c : Clm} {i : Nat} {k : World → Prop} {ks : List (Nat × (World → Prop))} {w : World} (h1 : k w) (h2 : c.mode ≠ 2 → allK ks w) : allK (nextK c i k ks) w := by
  unfold nextK
  split
  · exact h2 (by omega)
  · exact ⟨h1, trivial⟩
  · exact ⟨h1, h2 (by assumption)⟩
def noBar (cs : List Clm) (n : Nat) : Prop := ∀ (b : Nat) (cb : Clm), b < n → cs[b]? = some cb → cb.mode ≠ 2
/-- What the walk in the order of the text has told of each operation. -/
theorem wpC_unroll {V : Nat → Value} : ∀ (l : List Oper) (cs : List Clm) (i : Nat) (ks : List (Nat × (World → Prop))) (a : Act), wpC P ops Q W l cs i ks a → valid V l cs i a →
    (∀ j o, l[j]? = some o →
      (∃ c ks', cs[j]? = some c ∧ stepC P ops W o c ks' (puts V (fun k => decide (k < i + j)) l i a) ∧ ∀ w, stands ops V l cs i a w j (fun k => depB o k = true) → (noBar cs j → depK o ks w) → depK o ks' w) ∨
      (cs.length ≤ j ∧ tailB ops (i + cs.length) = true ∧ ∀ w, Below W.heap.size W w → stands ops V l cs i a w cs.length (fun _ => True) → (noBar cs cs.length → allK ks w) → wpOps P ops Q (List.range' (i + cs.length) (ops.size - (i + cs.length))) (puts V (fun k => decide (k < i + cs.length)) l i a) w)) ∧
    (cs.length = l.length → ∀ w, Below W.heap.size W w → stands ops V l cs i a w cs.length (fun _ => True) → (noBar cs cs.length → allK ks w) → Q .normal (puts V (fun _ => true) l i a) w)
  | [], [], i, ks, a, h, hV => ⟨fun j o hj => by simp at hj, fun _ w hb _ hk => h w hb (hk fun b cb h1 => by simp at h1)⟩
  | [], c :: cs, i, ks, a, h, hV => (by unfold wpC at h; exact h.elim)
  | o :: l, [], i, ks, a, h, hV => by
    unfold wpC at h
    refine ⟨fun j o' hj => ?_, fun hl => by simp at hl⟩
    refine .inr ⟨by simp, by simpa using h.1, fun w hb _ hk => ?_⟩
    simp only [List.length_nil, Nat.add_zero]
    rw [puts_none (o :: l) i a fun k hk => by simpa using hk]
    exact h.2 w hb (hk fun b cb h1 h2 => by simp at h2)
  | o :: l, c :: cs, i, ks, a, h, hV => by
    simp only [wpC] at h
    obtain ⟨h1, h2⟩ := h
    have hS := hV 0 o c (by simp) (by simp)
    rw [opn_zero] at hS
    have ih := wpC_unroll l cs (i + 1) _ (a.put o.dst (V i)) (h2 _ hS) (fun k o' c' ho hk => by
      have := hV (k + 1) o' c' (by simpa using ho) (by simpa using hk)
      rw [opn_succ] at this
      simpa [Nat.add_assoc, Nat.add_comm 1 k] using this)
    have bars : ∀ n, noBar cs n → ∀ (b : Nat) (cb : Clm), 0 < b → b < n + 1 → (c :: cs)[b]? = some cb → cb.mode ≠ 2 := fun n hn b cb h1 h2 h3 => by
      obtain ⟨b, rfl⟩ : ∃ b', b = b' + 1 := ⟨b - 1, by omega⟩
      exact hn b cb (by omega) (by simpa using h3)
    have bars' : ∀ n, noBar cs n → c.mode ≠ 2 → noBar (c :: cs) (n + 1) := fun n hn hc b cb h2 h3 => by
      cases b with
      | zero => simp at h3; subst h3; exact hc
      | succ b => exact hn b cb (by omega) (by simpa using h3)
    refine ⟨fun j o' hj => ?_, fun hl w hb hk hks => ?_⟩
    · cases j with
      | zero =>
        simp only [List.getElem?_cons_zero, Option.some.injEq] at hj
        subst hj
        refine .inl ⟨c, ks, by simp, ?_, fun w _ hk => hk fun b cb h1 => by omega⟩
        rw [puts_none (o :: l) i a fun k hk => by simpa using hk]
        exact h1
      | succ j =>
        simp only [List.getElem?_cons_succ] at hj
        have e : i + (j + 1) = i + 1 + j := by omega
        have ep : puts V (fun k => decide (k < i + (j + 1))) (o :: l) i a = puts V (fun k => decide (k < i + 1 + j)) l (i + 1) (a.put o.dst (V i)) := by
          simp only [puts, e, show i < i + 1 + j by omega, decide_true, if_true]
        rcases ih.1 j o' hj with ⟨c', ks', g1, g2, g3⟩ | ⟨g1, g3, g4⟩
        · refine .inl ⟨c', ks', by simpa using g1, by rw [ep]; exact g2, fun w hw hk => g3 w (stands_tail hw) fun hn => ?_⟩
          refine nextK_dep (fun hd => ?_) fun hc => hk (bars' _ hn hc)
          have := hw 0 o c (by omega) (by simp) (by simp) (by simpa using hd) (bars _ hn)
          rw [opx_zero] at this
          exact this
        · have e2 : i + (c :: cs).length = i + 1 + cs.length := by simp only [List.length_cons]; omega
          have ep2 : puts V (fun k => decide (k < i + (c :: cs).length)) (o :: l) i a = puts V (fun k => decide (k < i + 1 + cs.length)) l (i + 1) (a.put o.dst (V i)) := by
            simp only [puts, e2, show i < i + 1 + cs.length by omega, decide_true, if_true]
          refine .inr ⟨by simp only [List.length_cons]; omega, by rw [e2]; exact g3, fun w hb hk hks => ?_⟩
          rw [ep2, e2]
          refine g4 w hb (stands_tail hk) fun hn => ?_
          refine nextK_all ?_ fun hc => hks (bars' _ hn hc)
          have := hk 0 o c (by simp) (by simp) (by simp) trivial (bars _ hn)
          rw [opx_zero] at this
          exact this
    · simp only [puts, if_true]
      refine ih.2 (by simpa using hl) w hb (stands_tail hk) fun hn => ?_
      refine nextK_all ?_ fun hc => hks (bars' _ hn hc)
      have := hk 0 o c (by simp) (by simp) (by simp) trivial (bars _ hn)
      rw [opx_zero] at this
      exact this
def planB (ops : Array Oper) : Bool := Region.noSelect ops && (List.range ops.size).all fun i => match ops[i]? with
  | none => true
  | some o => (o.after.all fun e => !Region.binds .any e || decide (e.on < i)) && (List.range ops.size).all fun j => match ops[j]? with
    | none => true
    | some oj => match oj.dst with
      | none => true
      | some d => (!(o.looksAt ops).contains d || (depB o j || (decide (i < j) && depB oj i))) && (i == j || o.dst != some d)
theorem planB_spec (h : planB ops = true) : (∀ (j : Nat) (o : Oper) cs b, ops[j]? = some o → o.op ≠ .select cs b) ∧
    ∀ i o, ops[i]? = some o → (∀ j, depB o j = true → j < i) ∧ ∀ j oj d, ops[j]? = some oj → oj.dst = some d → (d ∈ o.looksAt ops → depB o j = true ∨ (i < j ∧ depB oj i = true)) ∧ (i ≠ j → o.dst ≠ some d) := by
  simp only [planB, Bool.and_eq_true] at h
  refine ⟨Region.noSelect_spec h.1, fun i o hi => ?_⟩
  have hlt : i < ops.size := (Array.getElem?_eq_some_iff.1 hi).1
  have h1 := List.all_eq_true.1 h.2 i (List.mem_range.2 hlt)
  rw [hi] at h1
  simp only [Bool.and_eq_true] at h1
  refine ⟨fun j hj => ?_, fun j oj d hoj hd => ?_⟩
  · rw [depB_iff] at hj
    obtain ⟨k, hk, hj⟩ := hj
    have := Array.all_eq_true.1 h1.1 k hk
    simp only [Bool.and_eq_true, beq_iff_eq] at hj
    rw [hj.2, hj.1] at this
    simpa using this
  · have hltj : j < ops.size := (Array.getElem?_eq_some_iff.1 hoj).1
    have h2 := List.all_eq_true.1 h1.2 j (List.mem_range.2 hltj)
    rw [hoj] at h2
    simp only [hd] at h2
    simp only [Bool.and_eq_true, Bool.or_eq_true, decide_eq_true_eq] at h2
    refine ⟨fun hm => h2.1.resolve_left ?_, fun hne => ?_⟩
    · simpa using hm
    · have := h2.2.resolve_left (by simpa using hne)
      simpa using this
def cnt (f : Nat → Bool) : Nat → Nat | 0 => 0 | n + 1 => cnt f n + (if f n then 0 else 1)
theorem cnt_zero {f : Nat → Bool} : ∀ {n : Nat}, cnt f n = 0 → ∀ j, j < n → f j = true
  | 0, _, _, hj => absurd hj (Nat.not_lt_zero _)
  | n + 1, h, j, hj => by
    simp only [cnt] at h
    by_cases hjn : j = n
    · subst hjn
      cases hf : f j with
      | true => rfl
      | false => rw [hf] at h; simp at h
    · exact cnt_zero (n := n) (by omega) j (by omega)
theorem cnt_same {f g : Nat → Bool} : ∀ {n : Nat}, (∀ j, j < n → f j = g j) → cnt f n = cnt g n
  | 0, _ => rfl
  | n + 1, h => by simp only [cnt]; rw [cnt_same (n := n) fun j hj => h j (by omega), h n (by omega)]
theorem cnt_set {f g : Nat → Bool} {i : Nat} (h0 : f i = false) (h1 : g i = true) (h2 : ∀ j, j ≠ i → g j = f j) : ∀ {n : Nat}, i < n → cnt f n = cnt g n + 1
  | 0, h => absurd h (Nat.not_lt_zero _)
  | n + 1, h => by
    simp only [cnt]
    by_cases hin : i = n
    · subst hin
      rw [cnt_same (f := f) (g := g) fun j hj => (h2 j (by omega)).symm, h0, h1]; simp
    · rw [cnt_set h0 h1 h2 (n := n) (by omega), h2 n (fun e => hin e.symm)]; omega
theorem uponC_op {T : Value → World → Prop} {o : Oper} {a : Act} {w : World} {K : Act → World → Prop} (hK : ∀ u w', T u w' → K (a.put o.dst u) w') (h : uponC P T ((execOp a.eval o).run P w)) : o.wp P a w K Q := by
  unfold Oper.wp
  cases hr : (execOp a.eval o).run P w with
  | ok n w' =>
    rw [hr] at h
    cases n with
    | value u => exact hK _ _ h
    | skip => exact hK _ _ h
    | enter f args =>
      simp only [Oper.upon]
      refine Calls.mono h ?_
      rintro e w'' ⟨v, rfl, hT⟩
      exact hK _ _ hT
    | _ => exact h.elim
  | halt x w' => rw [hr] at h; exact h.elim
/-- An operation waits for another, perhaps through others. -/
def reachB (ops : Array Oper) : Nat → Nat → Nat → Bool
  | 0, _, _ => false
  | n + 1, i, j => match ops[i]? with
    | none => false
    | some o => depB o j || (List.range i).any fun k => depB o k && reachB ops n k j
theorem reachB_down {ops : Array Oper} {D : Nat → Bool} (hdown : ∀ j o, ops[j]? = some o → D j = true → ∀ k, depB o k = true → D k = true) : ∀ n i j, reachB ops n i j = true → D i = true → D j = true
  | 0, _, _, h, _ => by cases h
  | n + 1, i, j, h, hD => by
    unfold reachB at h
    split at h
    · cases h
    · rename_i o ho
      rw [Bool.or_eq_true] at h
      rcases h with h | h
      · exact hdown i o ho hD j h
      · obtain ⟨k, _, hk⟩ := List.any_eq_true.1 h
        rw [Bool.and_eq_true] at hk
        exact reachB_down hdown n k j hk.2 (hdown i o ho hD k hk.1)
/-- What writes stands apart from all that asks the world. -/
def barB (ops : Array Oper) (ms : List Nat) : Bool := (List.range ops.size).all fun i => !(ms[i]? == some 2) || (List.range ops.size).all fun j => j == i || (ms[j]? == some 0) || (ms[j]? == none) ||
  (decide (j < i) && reachB ops 4 i j) || (decide (i < j) && reachB ops 4 j i)
theorem barB_spec {cs : List Clm} (h : barB ops (cs.map (·.mode)) = true) {i j : Nat} {oi oj : Oper} {ci cj : Clm} (hi : ops[i]? = some oi) (hj : ops[j]? = some oj) (hci : cs[i]? = some ci) (hcj : cs[j]? = some cj) (h2 : ci.mode = 2) (h0 : cj.mode ≠ 0) (hne : j ≠ i) :
    (j < i ∧ reachB ops 4 i j = true) ∨ (i < j ∧ reachB ops 4 j i = true) := by
  have hlti : i < ops.size := (Array.getElem?_eq_some_iff.1 hi).1
  have hltj : j < ops.size := (Array.getElem?_eq_some_iff.1 hj).1
  have := List.all_eq_true.1 h i (List.mem_range.2 hlti)
  simp only [List.getElem?_map, hci, Option.map_some, h2, BEq.rfl, Bool.not_true, Bool.false_or] at this
  have := List.all_eq_true.1 this j (List.mem_range.2 hltj)
  simp only [hi, hj, hcj, Option.map_some, Option.getD_some, Bool.or_eq_true, Bool.and_eq_true, decide_eq_true_eq, beq_iff_eq, Option.some.injEq, reduceCtorEq, or_false] at this
  rcases this with ((h | h) | h) | h
  · exact absurd h hne
  · exact absurd h h0
  · exact .inl h
  · exact .inr h
section
variable {cs : List Clm} {a0 : Act}
theorem opn_congr (hB : planB ops = true) {V V' : Nat → Value} {k : Nat} {o : Oper} (ho : ops[k]? = some o) (h : ∀ j, depB o j = true → V j = V' j) : opn V ops.toList 0 a0 k o = opn V' ops.toList 0 a0 k o := by
  obtain ⟨_, hpl⟩ := planB_spec hB
  refine opn_look (ops := ops) fun t ht => puts_look ops.toList 0 a0 a0 (fun q oq hq hd => ⟨rfl, fun hD => ?_⟩) rfl
  rcases ((hpl k o ho).2 q oq t (by simpa using hq) hd).1 ht with this | ⟨this, _⟩
  · simpa using h q this
  · simp at hD; omega
theorem opx_congr (hB : planB ops = true) {V V' : Nat → Value} {k : Nat} {o : Oper} (ho : ops[k]? = some o) (h : ∀ j, depB o j = true → V j = V' j) : opx ops V ops.toList 0 a0 k o = opx ops V' ops.toList 0 a0 k o := by
  obtain ⟨_, hpl⟩ := planB_spec hB
  have h1 := opn_congr (a0 := a0) (V' := V') hB ho h
  unfold opx oargs
  unfold opn at h1
  rw [h1]
  congr 1
  refine List.map_congr_left fun t ht => ?_
  obtain ⟨j, _, hj⟩ := List.mem_filterMap.1 ht
  have hdj : depB o j = true ∧ (ops[j]?).bind (·.dst) = some t := by
    cases hd : depB o j with
    | true => rw [hd] at hj; exact ⟨rfl, hj⟩
    | false => rw [hd] at hj; cases hj
  obtain ⟨oj, hoj, hdst⟩ := Option.bind_eq_some_iff.1 hdj.2
  have := puts_look (V := V) (V' := V') (D := fun q => decide (q < 0 + k)) (D' := fun q => decide (q < 0 + k)) (t := t) ops.toList 0 a0 a0 (fun q oq hq hd => ⟨rfl, fun hD => ?_⟩) rfl
  · simp only [Nat.zero_add] at this
    simp [Act.eval, this]
  · have hq' : ops[q]? = some oq := by simpa using hq
    by_cases hqj : q = j
    · subst hqj
      simpa using h q hdj.1
    · exact absurd hd (((hpl q oq hq').2 j oj t hoj hdst).2 hqj)
theorem extend (hB : planB ops = true) (V : Nat → Value) (D : Nat → Bool) (hdown : ∀ j o, ops[j]? = some o → D j = true → ∀ k, depB o k = true → D k = true)
    (hV : ∀ (k : Nat) (o : Oper) (c : Clm), D k = true → ops[k]? = some o → cs[k]? = some c → c.S (opn V ops.toList 0 a0 k o) (V k)) :
    ∃ V' : Nat → Value, (∀ k, D k = true → V' k = V k) ∧ valid V' ops.toList cs 0 a0 := by
  obtain ⟨_, hpl⟩ := planB_spec hB
  have key : ∀ n : Nat, ∃ V' : Nat → Value, (∀ k, D k = true → V' k = V k) ∧ ∀ (k : Nat) (o : Oper) (c : Clm), k < n → ops[k]? = some o → cs[k]? = some c → c.S (opn V' ops.toList 0 a0 k o) (V' k) := by
    intro n
    induction n with
    | zero => exact ⟨V, fun _ _ => rfl, fun k o c hk => by omega⟩
    | succ n ih =>
      obtain ⟨V1, h1, h2⟩ := ih
      cases hD : D n with
      | true =>
        refine ⟨V1, h1, fun k o c hk ho hc => ?_⟩
        by_cases hkn : k = n
        · subst hkn
          rw [opn_congr hB ho fun j hj => h1 j (hdown k o ho hD j hj), h1 k hD]
          exact hV k o c hD ho hc
        · exact h2 k o c (by omega) ho hc
      | false =>
        cases hon : ops[n]? with
        | none => exact ⟨V1, h1, fun k o c hk ho hc => by
            by_cases hkn : k = n
            · subst hkn; rw [hon] at ho; cases ho
            · exact h2 k o c (by omega) ho hc⟩
        | some on =>
          cases hcn : cs[n]? with
          | none => exact ⟨V1, h1, fun k o c hk ho hc => by
              by_cases hkn : k = n
              · subst hkn; rw [hcn] at hc; cases hc
              · exact h2 k o c (by omega) ho hc⟩
          | some cn =>
            obtain ⟨u, hu⟩ := cn.ex (opn V1 ops.toList 0 a0 n on)
            refine ⟨fun k => if k = n then u else V1 k, fun k hk => ?_, fun k o c hk ho hc => ?_⟩
            · have : k ≠ n := by rintro rfl; rw [hD] at hk; cases hk
              simp [this, h1 k hk]
            · rw [opn_congr (V' := V1) hB ho fun j hj => by
                have := (hpl k o ho).1 j hj
                simp [show j ≠ n by omega]]
              by_cases hkn : k = n
              · subst hkn
                rw [hon] at ho; cases ho
                rw [hcn] at hc; cases hc
                simpa using hu
              · simp only [if_neg hkn]
                exact h2 k o c (by omega) ho hc
  obtain ⟨V', h1, h2⟩ := key ops.size
  refine ⟨V', h1, fun k o c ho hc => ?_⟩
  have ho' : ops[k]? = some o := by simpa using ho
  have hlt : k < ops.size := (Array.getElem?_eq_some_iff.1 ho').1
  simpa using h2 k o c hlt ho' hc
theorem wpAny_tail {m : Nat} (hB : planB ops = true) (chain : ∀ k, m < k → k < ops.size → ∀ ok, ops[k]? = some ok → depB ok (k - 1) = true) :
    ∀ (fuel q : Nat) (listed : Array Bool) (a : Act) (w : World), listed.size = ops.size → m ≤ q → q ≤ ops.size → (∀ k, k < q → listed.getD k false = true) → (∀ k, q ≤ k → k < ops.size → listed.getD k false = false) →
      cnt (fun k => listed.getD k false) ops.size ≤ fuel → wpOps P ops Q (List.range' q (ops.size - q)) a w → wpAny P .any ops Q fuel listed a w := by
  obtain ⟨_, hpl⟩ := planB_spec hB
  intro fuel
  have conv : ∀ (listed : Array Bool), listed.size = ops.size → ∀ j, j < ops.size → listed.getD j true = listed.getD j false := fun listed hsz j hj => by
    simp only [Array.getD_eq_getD_getElem?]
    rw [Array.getElem?_eq_getElem (by omega)]; rfl
  have only : ∀ (q : Nat) (listed : Array Bool), listed.size = ops.size → m ≤ q → (∀ k, k < q → listed.getD k false = true) → (∀ k, q ≤ k → k < ops.size → listed.getD k false = false) → ∀ j ∈ Region.ready .any ops listed, j = q ∧ q < ops.size := by
    intro q listed hsz hm h1 h2 j hj
    obtain ⟨h0, o, ho, hafter⟩ := mem_ready.1 hj
    have hlt : j < ops.size := (Array.getElem?_eq_some_iff.1 ho).1
    rw [conv listed hsz j hlt] at h0
    rcases Nat.lt_or_ge j q with h | h
    · rw [h1 j h] at h0; cases h0
    · rcases Nat.lt_or_ge q j with h' | h'
      · have hd := chain j (by omega) hlt o ho
        rw [depB_iff] at hd
        obtain ⟨k, hk, hd⟩ := hd
        simp only [Bool.and_eq_true, beq_iff_eq] at hd
        have := hafter o.after[k] (Array.getElem_mem hk) hd.2
        rw [hd.1] at this
        rw [h2 (j - 1) (by omega) (by omega)] at this; cases this
      · exact ⟨by omega, by omega⟩
  have here : ∀ (q : Nat) (listed : Array Bool), listed.size = ops.size → (∀ k, k < q → listed.getD k false = true) → (∀ k, q ≤ k → k < ops.size → listed.getD k false = false) → q < ops.size → q ∈ Region.ready .any ops listed := by
    intro q listed hsz h1 h2 hq
    refine mem_ready.2 ⟨by rw [conv listed hsz q hq]; exact h2 q (Nat.le_refl _) hq, ops[q], Array.getElem?_eq_getElem hq, fun e he hbd => ?_⟩
    have hd : depB ops[q] e.on = true := by
      rw [depB_iff]
      obtain ⟨k, hk, rfl⟩ := Array.mem_iff_getElem.1 he
      exact ⟨k, hk, by simp [hbd]⟩
    exact h1 _ ((hpl q ops[q] (Array.getElem?_eq_getElem hq)).1 _ hd)
  induction fuel with
  | zero =>
    intro q listed a w hsz hm hq h1 h2 hcnt h
    have hall := cnt_zero (Nat.le_zero.1 hcnt)
    have hqe : q = ops.size := by
      rcases Nat.lt_or_ge q ops.size with h' | h'
      · have := h2 q (Nat.le_refl _) h'
        rw [hall q h'] at this; cases this
      · omega
    subst hqe
    refine ⟨?_, by simpa [wpOps] using h⟩
    refine List.eq_nil_iff_forall_not_mem.2 fun j hj => ?_
    have := only ops.size listed hsz hm h1 h2 j hj
    omega
  | succ fuel ih =>
    intro q listed a w hsz hm hq h1 h2 hcnt h
    refine ⟨fun hnil => ?_, fun j hj => ?_⟩
    · rcases Nat.lt_or_ge q ops.size with h' | h'
      · have := here q listed hsz h1 h2 h'
        rw [hnil] at this; cases this
      · have hqe : q = ops.size := by omega
        subst hqe
        simpa [wpOps] using h
    · obtain ⟨rfl, hlt⟩ := only q listed hsz hm h1 h2 j hj
      rw [show ops.size - j = (ops.size - (j + 1)) + 1 by omega, List.range'_succ, wpOps_cons] at h
      have hgo : ∀ k, (listed.setIfInBounds j true).getD k false = (k == j || listed.getD k false) := fun k => by
        by_cases hkj : k = j
        · subst hkj; simp [show k < listed.size by omega]
        · rw [getD_set_ne false (fun e => hkj e.symm)]; simp [hkj]
      refine wpOp_mono (fun a' w' hq' => ?_) h
      refine ih (j + 1) _ a' w' (by simpa using hsz) (by omega) (by omega) (fun k hk => ?_) (fun k hk hk' => ?_) ?_ hq'
      · rw [hgo]
        by_cases hkj : k = j
        · simp [hkj]
        · rw [h1 k (by omega)]; simp
      · rw [hgo, h2 k (by omega) hk']; simp; omega
      · have := cnt_set (f := fun k => listed.getD k false) (g := fun k => (listed.setIfInBounds j true).getD k false) (i := j) (h2 j (Nat.le_refl _) hlt) (by simp only [hgo]; simp) (fun k hk => by simp only [hgo]; simp [hk]) hlt
        omega
theorem wpAny_plan (hB : planB ops = true) (hbar : barB ops (cs.map (·.mode)) = true) (hlen : cs.length ≤ ops.size) (hw : wpC P ops Q W ops.toList cs 0 [] a0) :
    ∀ (fuel : Nat) (listed : Array Bool) (a : Act) (w : World) (V : Nat → Value), listed.size = ops.size →
      (∀ (k : Nat) (o : Oper) (c : Clm), listed.getD k false = true → ops[k]? = some o → cs[k]? = some c → c.S (opn V ops.toList 0 a0 k o) (V k)) →
      a = puts V (fun k => listed.getD k false) ops.toList 0 a0 → Below W.heap.size W w →
      (∀ (k : Nat) (o : Oper) (c : Clm), listed.getD k false = true → ops[k]? = some o → cs[k]? = some c → (∀ (b : Nat) (cb : Clm), k < b → cs[b]? = some cb → listed.getD b false = true → cb.mode ≠ 2) → c.K (opx ops V ops.toList 0 a0 k o) (V k) w) →
      (∀ j o, ops[j]? = some o → listed.getD j false = true → ∀ k, depB o k = true → listed.getD k false = true) →
      cnt (fun k => listed.getD k false) ops.size ≤ fuel → (∀ k, cs.length ≤ k → k < ops.size → listed.getD k false = false) → cs.length ≤ ops.size → wpAny P .any ops Q fuel listed a w := by
  obtain ⟨hsel, hpl⟩ := planB_spec hB
  have full : ∀ (listed : Array Bool) (a : Act) (w : World) (V : Nat → Value),
      (∀ (k : Nat) (o : Oper) (c : Clm), listed.getD k false = true → ops[k]? = some o → cs[k]? = some c → c.S (opn V ops.toList 0 a0 k o) (V k)) → a = puts V (fun k => listed.getD k false) ops.toList 0 a0 → Below W.heap.size W w →
      (∀ (k : Nat) (o : Oper) (c : Clm), listed.getD k false = true → ops[k]? = some o → cs[k]? = some c → (∀ (b : Nat) (cb : Clm), k < b → cs[b]? = some cb → listed.getD b false = true → cb.mode ≠ 2) → c.K (opx ops V ops.toList 0 a0 k o) (V k) w) →
      (∀ j, j < ops.size → listed.getD j false = true) → cs.length = ops.size → Q .normal a w := by
    intro listed a w V hV ha hb hK hall hcl
    have := (wpC_unroll (V := V) ops.toList cs 0 [] a0 hw (fun k o c ho hk => by
      have ho' : ops[k]? = some o := by simpa using ho
      simpa using hV k o c (hall k (Array.getElem?_eq_some_iff.1 ho').1) ho' hk)).2 (by simpa using hcl) w hb
      (fun k o c hlt ho hk _ hnb => by
        have ho' : ops[k]? = some o := by simpa using ho
        have := hK k o c (hall k (by omega)) ho' hk (fun b cb h1 h2 h3 => hnb b cb h1 (List.getElem?_eq_some_iff.1 h2).1 h2)
        simpa using this) (fun _ => trivial)
    rw [ha, puts_congr (V' := V) (D' := fun _ => true) ops.toList 0 a0 fun k _ h2 => ⟨hall k (by simpa using h2), fun _ => rfl⟩]
    exact this
  intro fuel
  induction fuel with
  | zero =>
    intro listed a w V hsz hV ha hb hK hdown hcnt hlast hcl
    have hall := cnt_zero (Nat.le_zero.1 hcnt)
    have hcl' : cs.length = ops.size := by
      rcases Nat.lt_or_ge cs.length ops.size with h | h
      · have h1 := hlast cs.length (Nat.le_refl _) h
        have h2 := hall cs.length h
        rw [h1] at h2; cases h2
      · omega
    refine ⟨?_, full listed a w V hV ha hb hK hall hcl'⟩
    refine List.eq_nil_iff_forall_not_mem.2 fun j hj => ?_
    obtain ⟨h0, o, ho, _⟩ := mem_ready.1 hj
    have hlt : j < ops.size := (Array.getElem?_eq_some_iff.1 ho).1
    have := hall j hlt
    simp only [Array.getD_eq_getD_getElem?] at h0 this
    rw [Array.getElem?_eq_getElem (by omega)] at h0 this
    simp at h0 this
    rw [h0] at this; cases this
  | succ fuel ih =>
    intro listed a w V hsz hV ha hb hK hdown hcnt hlast hcl
    have conv : ∀ j, j < ops.size → listed.getD j true = listed.getD j false := fun j hj => by
      simp only [Array.getD_eq_getD_getElem?]
      rw [Array.getElem?_eq_getElem (by omega)]; rfl
    refine ⟨fun hnil => ?_, fun i hi => ?_⟩
    · have hall : ∀ j, j < ops.size → listed.getD j false = true := by
        intro j
        induction j using Nat.strongRecOn with
        | ind j ihj =>
          intro hj
          cases hl : listed.getD j false with
          | true => rfl
          | false =>
            have : j ∈ Region.ready .any ops listed := mem_ready.2 ⟨by rw [conv j hj]; exact hl, ops[j], Array.getElem?_eq_getElem hj, fun e he hbd => by
              have hd : depB ops[j] e.on = true := by
                rw [depB_iff]
                obtain ⟨k, hk, rfl⟩ := Array.mem_iff_getElem.1 he
                exact ⟨k, hk, by simp [hbd]⟩
              have hlt := (hpl j ops[j] (Array.getElem?_eq_getElem hj)).1 _ hd
              exact ihj _ hlt (by omega)⟩
            rw [hnil] at this; cases this
      have hcl' : cs.length = ops.size := by
        rcases Nat.lt_or_ge cs.length ops.size with h | h
        · have h1 := hlast cs.length (Nat.le_refl _) h
          have h2 := hall cs.length h
          rw [h1] at h2; cases h2
        · omega
      exact full listed a w V hV ha hb hK hall hcl'
    · obtain ⟨h0, o, ho, hafter⟩ := mem_ready.1 hi
      have hlt : i < ops.size := (Array.getElem?_eq_some_iff.1 ho).1
      have h0' : listed.getD i false = false := by rw [← conv i hlt]; exact h0
      have hdeps : ∀ k, depB o k = true → listed.getD k false = true := fun k hk => by
        rw [depB_iff] at hk
        obtain ⟨q, hq, hk⟩ := hk
        simp only [Bool.and_eq_true, beq_iff_eq] at hk
        have := hafter o.after[q] (Array.getElem_mem hq) hk.2
        rw [hk.1] at this; exact this
      have hgo : ∀ j, (listed.setIfInBounds i true).getD j false = (j == i || listed.getD j false) := fun j => by
        by_cases hji : j = i
        · subst hji; simp [show j < listed.size by omega]
        · rw [getD_set_ne false (fun e => hji e.symm)]; simp [hji]
      obtain ⟨V1, hV1, hval⟩ := extend (cs := cs) (a0 := a0) hB V (fun k => listed.getD k false) hdown hV
      have hlook : ∀ t ∈ o.looksAt ops, (puts V1 (fun k => decide (k < 0 + i)) ops.toList 0 a0).tmps[t]? = a.tmps[t]? := fun t ht => by
        rw [ha]
        refine puts_look ops.toList 0 a0 a0 (fun k ok hk hd => ?_) rfl
        have hk' : ops[k]? = some ok := by simpa using hk
        simp only [Nat.zero_add]
        rcases ((hpl i o ho).2 k ok t hk' hd).1 ht with hdep | ⟨hik, hdep⟩
        · have h1 := (hpl i o ho).1 k hdep
          have h2 := hdeps k hdep
          exact ⟨by rw [h2]; simpa using h1, fun _ => hV1 k h2⟩
        · refine ⟨?_, fun hD => by simp at hD; omega⟩
          cases hl : listed.getD k false with
          | false => simp; omega
          | true => have := hdown k ok hk' hl i hdep; rw [h0'] at this; cases this
      obtain ⟨he, hwn⟩ := exec_look (ops := ops) (hsel i o · · ho) hlook
      have hoa : o.op.operands.toList.map (puts V1 (fun k => decide (k < 0 + i)) ops.toList 0 a0).eval = opn V ops.toList 0 a0 i o := opn_congr (V' := V) hB ho fun j hj => hV1 j (hdeps j hj)
      have hoax : oargs ops o (puts V1 (fun k => decide (k < 0 + i)) ops.toList 0 a0) = opx ops V ops.toList 0 a0 i o := opx_congr (V' := V) hB ho fun j hj => hV1 j (hdeps j hj)
      rcases (wpC_unroll (V := V1) ops.toList cs 0 [] a0 hw hval).1 i o (by simpa using ho) with ⟨c, ks', g1, g2, g3⟩ | ⟨hcs, g3, g4⟩
      · have hi' : i < cs.length := (List.getElem?_eq_some_iff.1 g1).1
        have hks : c.mode ≠ 0 → depK o ks' w := fun hm0 => g3 w (fun k ok ck hki hok hck hd hnb => by
          have hok' : ops[k]? = some ok := by simpa using hok
          have hd' : depB o k = true := by simpa using hd
          have hDk := hdeps k hd'
          have := hK k ok ck hDk hok' hck (fun b cb hkb hcb hDb hm => by
            have hbl : b < cs.length := (List.getElem?_eq_some_iff.1 hcb).1
            have hob : ops[b]? = some ops[b] := Array.getElem?_eq_getElem (by omega)
            by_cases hbi : b < i
            · exact hnb b cb hkb hbi hcb hm
            · have hbne : i ≠ b := by rintro rfl; rw [h0'] at hDb; cases hDb
              rcases barB_spec hbar hob ho hcb g1 hm hm0 hbne with ⟨_, h⟩ | ⟨h, _⟩
              · have := reachB_down (D := fun k => listed.getD k false) hdown 4 b i h hDb
                rw [h0'] at this; cases this
              · omega)
          rw [opx_congr (V' := V) hB hok' fun j hj => hV1 j (hdown k ok hok' hDk j hj)]
          simpa [hV1 k hDk] using this) (fun _ => trivial)
        have next : ∀ u w', (c.mode ≠ 2 → Below w.heap.size w w') ∧ Below W.heap.size W w' ∧ c.S (opn V ops.toList 0 a0 i o) u ∧ c.K (opx ops V ops.toList 0 a0 i o) u w' → wpAny P .any ops Q fuel (listed.setIfInBounds i true) (a.put o.dst u) w' := by
          rintro u w' ⟨hbl, hbW, hSu, hKu⟩
          have opnU : ∀ k ok, ops[k]? = some ok → (k = i ∨ listed.getD k false = true) → opn (fun q => if q = i then u else V q) ops.toList 0 a0 k ok = opn V ops.toList 0 a0 k ok := fun k ok hok hk =>
            opn_congr hB hok fun j hj => by
              have : j ≠ i := by
                rintro rfl
                rcases hk with rfl | hk
                · have := (hpl k ok hok).1 k hj; omega
                · have := hdown k ok hok hk j hj
                  rw [h0'] at this; cases this
              simp [this]
          have opxU : ∀ k ok, ops[k]? = some ok → (k = i ∨ listed.getD k false = true) → opx ops (fun q => if q = i then u else V q) ops.toList 0 a0 k ok = opx ops V ops.toList 0 a0 k ok := fun k ok hok hk =>
            opx_congr hB hok fun j hj => by
              have : j ≠ i := by
                rintro rfl
                rcases hk with rfl | hk
                · have := (hpl k ok hok).1 k hj; omega
                · have := hdown k ok hok hk j hj
                  rw [h0'] at this; cases this
              simp [this]
          refine ih (listed.setIfInBounds i true) _ w' (fun k => if k = i then u else V k) (by simpa using hsz) (fun k ok c' hl hok hk => ?_) ?_ hbW (fun k ok c' hl hok hk hnb => ?_) (fun j oj hj hl k hd => ?_) ?_ (fun k h1 h2 => ?_) hcl
          · rw [hgo] at hl
            by_cases hki : k = i
            · subst hki
              rw [hk] at g1; cases g1
              rw [hok] at ho; cases ho
              rw [opnU k _ hok (.inl rfl)]
              simpa using hSu
            · have hl : listed.getD k false = true := by simpa [hki] using hl
              rw [opnU k ok hok (.inr hl)]
              simpa [hki] using hV k ok c' hl hok hk
          · rw [ha, puts_put ops.toList 0 i a0 (by simpa using ho) (by simpa using h0') (fun k o' hk hne d hd => ?_)]
            · exact puts_congr ops.toList 0 a0 fun k _ _ => ⟨by simp only [Nat.zero_add]; exact (hgo k).symm, fun _ => by simp⟩
            · exact ((hpl k o' (by simpa using hk)).2 i o d ho hd).2 hne
          · by_cases hki : k = i
            · subst hki
              rw [hk] at g1; cases g1
              rw [hok] at ho; cases ho
              rw [opxU k _ hok (.inl rfl)]
              simpa using hKu
            · rw [hgo] at hl
              have hl : listed.getD k false = true := by simpa [hki] using hl
              rw [opxU k ok hok (.inr hl)]
              simp only [if_neg hki]
              by_cases hm0 : c'.mode = 0
              · exact c'.quiet hm0 _ _ _
              · by_cases hm2 : c.mode = 2
                · exfalso
                  rcases barB_spec hbar ho hok g1 hk hm2 hm0 hki with ⟨h, _⟩ | ⟨_, h⟩
                  · exact hnb i c h g1 (by rw [hgo]; simp) hm2
                  · have := reachB_down (D := fun k => listed.getD k false) hdown 4 k i h hl
                    rw [h0'] at this; cases this
                · exact c'.keeps _ _ _ _ (hK k ok c' hl hok hk fun b cb h1 h2 h3 => hnb b cb h1 h2 (by rw [hgo, h3]; simp)) (hbl hm2)
          · rw [hgo] at hl ⊢
            by_cases hji : j = i
            · subst hji
              rw [hj] at ho; cases ho
              rw [hdeps k hd]; simp
            · have : listed.getD j false = true := by simpa [hji] using hl
              rw [hdown j oj hj this k hd]; simp
          · have := cnt_set (f := fun k => listed.getD k false) (g := fun k => (listed.setIfInBounds i true).getD k false) (i := i) h0' (by simp only [hgo]; simp) (fun j hj => by simp only [hgo]; simp [hj]) hlt
            omega
          · rw [hgo, hlast k h1 h2]
            simp; omega
        unfold wpOp
        simp only [ho]
        unfold stepC at g2
        rw [hoa, hoax] at g2
        rcases g2 with ⟨k1, k2, k3⟩ | ⟨k1, k2, k3⟩
        · rw [← hwn, k1, if_pos rfl]
          by_cases hm0 : c.mode = 0
          · refine .inl (uponC_op (T := fun u w' => (∃ n, w' = w.drewN n) ∧ c.S (opn V ops.toList 0 a0 i o) u) (fun u w' hT => ?_) ?_)
            · obtain ⟨⟨n, rfl⟩, hS⟩ := hT
              exact next u _ ⟨fun _ => below_drewN (Below.refl _ _) _, below_drewN hb _, hS, c.quiet hm0 _ _ _⟩
            · rw [← he]; exact k2 hm0 w
          · refine .inl (uponC_op next ?_)
            rw [← he]
            exact k3 hm0 w hb (hks hm0)
        · rw [← hwn, k1, if_neg (by simp)]
          exact next undef w ⟨fun _ => Below.refl _ _, hb, k3, c.quiet k2 _ _ _⟩
      · simp only [Nat.zero_add] at g3 g4
        simp only [tailB, Bool.and_eq_true] at g3
        obtain ⟨g3, g5⟩ := g3
        have chain : ∀ k, cs.length < k → k < ops.size → ∀ ok, ops[k]? = some ok → depB ok (k - 1) = true := fun k h1 h2 ok hok => by
          have := List.all_eq_true.1 g5 k (List.mem_range.2 h2)
          simp only [Bool.or_eq_true, decide_eq_true_eq] at this
          rcases this with h | h
          · omega
          · rw [hok] at h; simpa using h
        have hic : i = cs.length := by
          rcases Nat.lt_or_ge cs.length i with h | h
          · have h1 := hdeps _ (chain i h hlt o ho)
            have h2 := hlast (i - 1) (by omega) (by omega)
            rw [h2] at h1; cases h1
          · omega
        have hall : ∀ d j, j + d + 1 = i → listed.getD j false = true := by
          intro d
          induction d using Nat.strongRecOn with
          | ind d ihd =>
            intro j hj
            have := List.all_eq_true.1 g3 j (List.mem_range.2 (by omega))
            simp only [List.any_eq_true, List.mem_range, Bool.and_eq_true, decide_eq_true_eq] at this
            obtain ⟨k, hk, hjk, hd⟩ := this
            have hk' : k < ops.size := by omega
            rw [Array.getElem?_eq_getElem hk'] at hd
            simp only [Option.map_some, Option.getD_some] at hd
            by_cases hki : k = i
            · subst hki
              rw [Array.getElem?_eq_getElem hk'] at ho; cases ho
              exact hdeps j hd
            · exact hdown k ops[k] (Array.getElem?_eq_getElem hk') (ihd (i - k - 1) (by omega) k (by omega)) j hd
        have hall' : ∀ k, k < cs.length → listed.getD k false = true := fun k hk => hall (i - k - 1) k (by omega)
        have hpa : puts V1 (fun k => decide (k < cs.length)) ops.toList 0 a0 = a := by
          rw [ha]
          refine puts_congr ops.toList 0 a0 fun k _ hk => ?_
          by_cases hki : k < cs.length
          · exact ⟨by rw [hall' k hki]; simpa using hki, fun _ => hV1 k (hall' k hki)⟩
          · exact ⟨by rw [hlast k (by omega) (by simpa using hk)]; simpa using hki, fun h => absurd (by simpa using h) hki⟩
        have := g4 w hb (fun k ok ck hlt' hok hck _ hnb => by
          have hok' : ops[k]? = some ok := by simpa using hok
          have hDk := hall' k (by omega)
          have := hK k ok ck hDk hok' hck fun b cb h1 h2 h3 => hnb b cb h1 (List.getElem?_eq_some_iff.1 h2).1 h2
          rw [opx_congr (V' := V) hB hok' fun j hj => hV1 j (hdown k ok hok' hDk j hj)]
          simpa [hV1 k hDk] using this) (fun _ => trivial)
        rw [hpa] at this
        exact ((wpAny_tail hB chain (fuel + 1) cs.length listed a w hsz (Nat.le_refl _) hcl hall' hlast hcnt this).2 i hi)
end
theorem wpC_len : ∀ (l : List Oper) (cs : List Clm) (i : Nat) (ks : List (Nat × (World → Prop))) (a : Act), wpC P ops Q W l cs i ks a → cs.length ≤ l.length
  | [], [], _, _, _, _ => Nat.le_refl _
  | [], _ :: _, _, _, _, h => (by unfold wpC at h; exact h.elim)
  | _ :: _, [], _, _, _, _ => by simp
  | o :: l, c :: cs, i, ks, a, h => by
    simp only [wpC] at h
    obtain ⟨v, hv⟩ := c.ex (o.op.operands.toList.map a.eval)
    have := wpC_len l cs _ _ _ (h.2 v hv)
    simp only [List.length_cons]
    omega
/-- ONE WALK OF THE ORDER OF THE TEXT SERVES EVERY ORDER. -/
theorem wp_region_plan {id : Nat} {a : Act} {l : List Oper} {cs : List Clm} (hw : wpC P l.toArray Q W l cs 0 [] a) (hpr1 : P.follows .mixedOrders = true) (hpr2 : planB l.toArray = true) (hpr3 : barB l.toArray (cs.map (·.mode)) = true) : (Code.region id l.toArray true).wp P Q a W := by
  have hlen := wpC_len l cs _ _ _ hw
  have hsz : l.toArray.size = l.length := by simp
  refine wp_region_any hpr1 ?_
  refine wpAny_plan (cs := cs) (a0 := a) (W := W) hpr2 hpr3 (by omega) (by simpa using hw) _ _ _ _ (fun _ => undef) (by simp) ?_ ?_ (Below.refl _ _).drew ?_ ?_ ?_ ?_ (by omega)
  · intro k o c hl
    exfalso
    simp only [Array.getD_eq_getD_getElem?] at hl
    by_cases hk : k < l.length <;> simp [hk] at hl
  · refine (puts_none _ _ _ fun k _ => ?_).symm
    simp only [Array.getD_eq_getD_getElem?]
    by_cases hk : k < l.length <;> simp [hk]
  · intro k o c hl
    exfalso
    simp only [Array.getD_eq_getD_getElem?] at hl
    by_cases hk : k < l.length <;> simp [hk] at hl
  · intro j o _ hl
    exfalso
    simp only [Array.getD_eq_getD_getElem?] at hl
    by_cases hk : j < l.length <;> simp [hk] at hl
  · have : ∀ (f : Nat → Bool) (n : Nat), cnt f n ≤ n := by
      intro f n
      induction n with
      | zero => exact Nat.le_refl _
      | succ n ih => simp only [cnt]; split <;> omega
    exact this _ _
  · intro k _ _
    simp only [Array.getD_eq_getD_getElem?]
    by_cases hk : k < l.length <;> simp [hk]
variable {l : List Oper} {cs : List Clm} {i : Nat} {ks : List (Nat × (World → Prop))} {a : Act} {o : Oper}
theorem wpC_norm {a' : Act} (ha : a = a') (h : wpC P ops Q W l cs i ks a') : wpC P ops Q W l cs i ks a := ha ▸ h
theorem wpC_nil (h : ∀ w, Below W.heap.size W w → allK ks w → Q .normal a w) : wpC P ops Q W [] [] i ks a := h
/-- What is left stands behind all the rest: it is walked as a list. -/
theorem wpC_tail (hs : tailB ops i = true) (hd : ops.toList.drop i = o :: l) (h : ∀ w, Below W.heap.size W w → allK ks w → wpList P ops Q (o :: l) a w) : wpC P ops Q W (o :: l) [] i ks a :=
  ⟨hs, fun w hb hk => by
    have := h w hb hk
    have hl : ∀ j, (o :: l)[j]? = ops[i + j]? := fun j => by rw [← hd, List.getElem?_drop, Array.getElem?_toList]
    rw [← wpOps_eq_wpList (o :: l) i hl] at this
    have e : ops.size - i = (o :: l).length := by
      have h1 := hl (o :: l).length
      rw [List.getElem?_eq_none (Nat.le_refl _)] at h1
      have h2 := hl l.length
      simp only [List.length_cons] at h1 ⊢
      have h3 : ops.size ≤ i + (l.length + 1) := Array.getElem?_eq_none_iff.1 h1.symm
      have h4 : i + l.length < ops.size := by
        rcases Nat.lt_or_ge (i + l.length) ops.size with h | h
        · exact h
        · rw [Array.getElem?_eq_none h] at h2
          have := List.getElem?_eq_none_iff.1 h2
          simp only [List.length_cons] at this
          omega
      omega
    rw [e]; exact this⟩
/-- An operation that only works on its operands. -/
def PureAt (P : Program) (o : Oper) (x : List Value) (u : Value) : Prop := (∃ a : Act, o.op.operands.toList.map a.eval = x) ∧ ∀ (a : Act) w, o.op.operands.toList.map a.eval = x → (execOp a.eval o).run P w = .ok (.value u) w
theorem PureAt.uniq {x : List Value} {u v : Value} (h1 : PureAt P o x u) (h2 : PureAt P o x v) : u = v := by
  obtain ⟨⟨a, ha⟩, h1⟩ := h1
  have e1 := h1 a default ha
  rw [h2.2 a default ha] at e1
  simp at e1; exact e1.symm
def Clm.det (P : Program) (o : Oper) : Clm := ⟨0, fun x v => ∀ u, PureAt P o x u → v = u, fun _ _ _ => True,
  fun x => by
    by_cases h : ∃ u, PureAt P o x u
    · obtain ⟨u, hu⟩ := h
      exact ⟨u, fun u' hu' => hu.uniq hu'⟩
    · exact ⟨undef, fun u hu => absurd ⟨u, hu⟩ h⟩,
  fun _ _ _ _ _ _ => trivial, fun _ _ _ _ => trivial⟩
theorem wpC_det (v : Value) (hw : Region.wanted o (yielded ops a.tmps) = true) (hs : ∀ cs b, o.op ≠ .select cs b) (h1 : ∀ w, (execOp a.eval o).run P w = .ok (.value v) w)
    (h : wpC P ops Q W l cs (i + 1) ks (a.put o.dst v)) : wpC P ops Q W (o :: l) (Clm.det P o :: cs) i ks a := by
  have hp : PureAt P o (o.op.operands.toList.map a.eval) v := ⟨⟨a, rfl⟩, fun a' w he => by
    rw [execOp_congr (ρ := a'.eval) (ρ' := a.eval) o hs fun x hx => ?_]
    · exact h1 w
    · have := List.map_inj_left.1 he x (by simpa using hx)
      exact this⟩
  simp only [wpC]
  refine ⟨.inl ⟨hw, fun _ w => ?_, fun h => absurd rfl h⟩, fun u hu => ?_⟩
  · rw [h1 w]; exact ⟨⟨0, rfl⟩, fun u hu => hp.uniq hu⟩
  · rw [hu v hp]; exact h
/-- An operation that no one asks for. -/
def Clm.no : Clm := ⟨0, fun _ v => v = undef, fun _ _ _ => True, fun _ => ⟨_, rfl⟩, fun _ _ _ _ _ _ => trivial, fun _ _ _ _ => trivial⟩
theorem wpC_skip (hw : Region.wanted o (yielded ops a.tmps) = false) (h : wpC P ops Q W l cs (i + 1) ks (a.put o.dst undef)) : wpC P ops Q W (o :: l) (Clm.no :: cs) i ks a := by
  simp only [wpC]
  refine ⟨.inr ⟨hw, rfl, rfl⟩, fun u hu => ?_⟩
  have hu : u = undef := hu
  subst hu; exact h
/-- One value, whatever the operands. -/
def Clm.one (v : Value) : Clm := ⟨1, fun _ u => u = v, fun _ _ _ => True, fun _ => ⟨v, rfl⟩, fun _ _ _ _ _ _ => trivial, fun h => nomatch h⟩
theorem wpC_val (v : Value) (hw : Region.wanted o (yielded ops a.tmps) = true) (h1 : ∀ w, Below W.heap.size W w → depK o ks w → (execOp a.eval o).run P w = .ok (.value v) w)
    (h : wpC P ops Q W l cs (i + 1) ((i, fun _ => True) :: ks) (a.put o.dst v)) : wpC P ops Q W (o :: l) (Clm.one v :: cs) i ks a := by
  simp only [wpC]
  refine ⟨.inl ⟨hw, fun h => absurd h (by decide : ¬ (1 : Nat) = 0), fun _ w hb hk => ?_⟩, fun u hu => ?_⟩
  · rw [h1 w hb hk]; exact ⟨fun _ => Below.refl _ _, hb, rfl, trivial⟩
  · have hu : u = v := hu
    subst hu; exact h
/-- A call, or an operation that makes memory: the claim is told. -/
theorem wpC_call (c : Clm) (hc1 : c.mode = 1) (hw : Region.wanted o (yielded ops a.tmps) = true) {f : FuncId} {args : Array Value} (h1 : ∀ w, (execOp a.eval o).run P w = .ok (.enter f args) w)
    (hc : ∀ w, Below W.heap.size W w → depK o ks w → Calls P f args w (fun e w' => ∃ v, e = .returned v ∧ Below w.heap.size w w' ∧ c.S (o.op.operands.toList.map a.eval) v ∧ c.K (oargs ops o a) v w'))
    (h : ∀ v, c.S (o.op.operands.toList.map a.eval) v → wpC P ops Q W l cs (i + 1) ((i, c.K (oargs ops o a) v) :: ks) (a.put o.dst v)) : wpC P ops Q W (o :: l) (c :: cs) i ks a := by
  simp only [wpC]
  refine ⟨.inl ⟨hw, fun h => (by rw [hc1] at h; cases h), fun _ w hb hk => ?_⟩, fun v hv => ?_⟩
  · rw [h1 w]
    refine Calls.mono (hc w hb hk) ?_
    rintro e w' ⟨v, rfl, hbl, hS, hK⟩
    exact ⟨v, rfl, fun _ => hbl, below_then hb hbl, hS, hK⟩
  · have : nextK c i (c.K (oargs ops o a) v) ks = (i, c.K (oargs ops o a) v) :: ks := by unfold nextK; rw [hc1]; rfl
    rw [this]; exact h v hv
theorem wpC_callB (v : Value) (hw : Region.wanted o (yielded ops a.tmps) = true) {f : FuncId} {args : Array Value} (h1 : ∀ w, (execOp a.eval o).run P w = .ok (.enter f args) w)
    (hc : ∀ w, Below W.heap.size W w → depK o ks w → Calls P f args w (BV w v))
    (h : wpC P ops Q W l cs (i + 1) ((i, fun _ => True) :: ks) (a.put o.dst v)) : wpC P ops Q W (o :: l) (Clm.one v :: cs) i ks a := by
  refine wpC_call (Clm.one v) rfl hw h1 (fun w hb hk => (hc w hb hk).mono ?_) ?_
  · rintro e w' ⟨rfl, hbl⟩; exact ⟨v, rfl, hbl, rfl, trivial⟩
  · intro u hu
    have hu : u = v := hu
    subst hu; exact h
/-- These cells, and they may be written. -/
def owned (w : World) (b : Nat) (xs : List Value) : Prop := ∀ k x, xs[k]? = some x → w.cell? ⟨b, k, none⟩ = some x ∧ w.frozen? ⟨b, k, none⟩ = false
theorem owned.later {w w' : World} {b : Nat} {xs : List Value} (h : owned w b xs) (hb : Below w.heap.size w w') : owned w' b xs :=
  fun k x hx => ⟨cell_later hb (h k x hx).1, free_later hb (h k x hx).1 (h k x hx).2⟩
theorem owned_alloc (w : World) (xs : List Value) (t : TypeId) : owned (w.alloc (.cells xs.toArray t)) w.heap.size xs := by
  intro k x hx
  exact ⟨by rw [World.cell?_alloc_at _ _ _ _ rfl]; simpa using hx, World.frozen?_alloc_at _ _ _ _ rfl⟩
/-- A slice of one element that is written out. -/
def lit1K (o : Nat) (x : List Value) (u : Value) (w : World) : Prop := match u with | .slice (some ⟨b, 0, none⟩) _ _ => o ≤ b ∧ owned w b x | _ => True
def Clm.lit1 (o : Nat) : Clm := ⟨1, fun _ u => ∃ b, u = .slice (some ⟨b, 0, none⟩) 1 1, fun x u w => lit1K o (x.take 1) u w, fun _ => ⟨_, 0, rfl⟩,
  fun _ u w w' h hb => by
    unfold lit1K at h ⊢
    split
    · exact ⟨h.1, h.2.later hb⟩
    · trivial, fun h => nomatch h⟩
/-- A store into a variable of the region's own: what is told of the world behind it. -/
def putK (o : Nat) (x : List Value) (w : World) : Prop := match x with | [.pointer (some ⟨b, 0, none⟩), .agg vs] => o ≤ b ∧ owned w b vs.toList | _ => True
/-- What later memory keeps. -/
def Keeps (M : List Value → World → Prop) : Prop := ∀ x w w', M x w → Below w.heap.size w w' → M x w'
def Clm.put (o : Nat) (M : List Value → World → Prop) (hM : Keeps M) : Clm := ⟨2, fun _ u => u = undef, fun x _ w => putK o (x.take 2) w ∧ M (x.take 2) w, fun _ => ⟨undef, rfl⟩,
  fun x u w w' h hb => by
    refine ⟨?_, hM _ _ _ h.2 hb⟩
    have h := h.1
    revert h
    generalize x.take 2 = y
    intro h
    unfold putK at h ⊢
    split
    · exact ⟨h.1, h.2.later hb⟩
    · trivial, fun h => nomatch h⟩
/-- '+' ¦ '-' ¦ '*' ¦ '/' of floats. -/
def Clm.fop (op : BinOp) : Clm := ⟨0, fun x v => ∀ k p q, x = [.float k p, .float k q] → ∃ r, v = .float k r ∧ cn k r = Go.Proofs.Ytpnkapdemgieaaa.fop op k (cn k p) (cn k q), fun _ _ _ => True,
  fun x => by
    by_cases h : ∃ k p q, x = [.float k p, .float k q]
    · obtain ⟨k, p, q, rfl⟩ := h
      refine ⟨.float k (Go.Proofs.Ytpnkapdemgieaaa.fop op k (cn k p) (cn k q)), fun k' p' q' e => ?_⟩
      simp only [List.cons.injEq, Value.float.injEq, and_true] at e
      obtain ⟨⟨rfl, rfl⟩, _, rfl⟩ := e
      exact ⟨_, rfl, cn_fop _ _ _ _⟩
    · exact ⟨undef, fun k p q e => absurd ⟨k, p, q, e⟩ h⟩,
  fun _ _ _ _ _ _ => trivial, fun _ _ _ _ => trivial⟩
theorem wpC_fop {op : BinOp} {t t' : TypeId} {X Y : Operand} (ho : o.op = .binOp op t X Y t') (hop : arithOp op = true) {k : FloatKind} {x y : Nat} (hx : a.eval X = .float k x) (hy : a.eval Y = .float k y) (hw : Region.wanted o (yielded ops a.tmps) = true)
    (h : ∀ r, (∀ cx cy, cn k x = cx → cn k y = cy → cn k r = Go.Proofs.Ytpnkapdemgieaaa.fop op k cx cy) → wpC P ops Q W l cs (i + 1) ks (a.put o.dst (.float k r))) : wpC P ops Q W (o :: l) (Clm.fop op :: cs) i ks a := by
  have hl : o.op.operands.toList.map a.eval = [.float k x, .float k y] := by rw [ho]; simp [Op.operands, hx, hy]
  simp only [wpC]
  rw [hl]
  refine ⟨.inl ⟨hw, fun _ w => ?_, fun h => absurd rfl h⟩, fun u hu => ?_⟩
  · obtain ⟨r, n, h1, h2⟩ := run_exec_fop (P := P) op hop t t' X Y ho k x y hx hy w
    rw [h1, hl]
    refine ⟨⟨n, rfl⟩, fun k' p' q' e => ?_⟩
    simp only [List.cons.injEq, Value.float.injEq, and_true] at e
    obtain ⟨⟨rfl, rfl⟩, _, rfl⟩ := e
    exact ⟨r, rfl, h2⟩
  · obtain ⟨r, rfl, hr⟩ := hu k x y rfl
    exact h r (by rintro cx cy rfl rfl; exact hr)
end
attribute [irreducible] wpC
end Go.Proofs.Ytpnkapdemgieaaa
