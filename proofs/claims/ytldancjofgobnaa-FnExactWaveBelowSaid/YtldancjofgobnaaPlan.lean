/-
  A statement whose order Go leaves open and whose operations make memory: each operation yields some value of a class, with a claim on the world that later memory keeps; one walk in the order of the text serves every order. No condition; nothing of the program is named here.
-/
import Derived.Test.YtldancjofgobnaaOpen
import Derived.Deep.MidRow
set_option linter.unusedSimpArgs false
set_option linter.unusedVariables false
set_option linter.unusedSectionVars false
namespace Go.Proofs.Ytldancjofgobnaa
open Go Go.RowKit

/-- What is told of an operation's value: its class, and what the world has of it (both of the operands' values). Mode 0: the operation asks nothing of the world and leaves it; 1: it makes memory; 2: it writes, and others that ask the world stand ahead of it or behind it. -/
structure Clm where
  mode : Nat
  S : List Value → Value → Prop
  K : List Value → Value → World → Prop
  ex : ∀ x, ∃ v, S x v
  keeps : ∀ x v w w', K x v w → Below w.heap.size w w' → K x v w'
  quiet : mode = 0 → ∀ x v w, K x v w
section
variable {P : Program} {ops : Array Oper} {Q : Exit → Act → World → Prop} {W : World}
def uponC (P : Program) (T : Value → World → Prop) : Result Next → Prop
  | .ok (.value u) w' => T u w'
  | .ok .skip w' => T undef w'
  | .ok (.enter f args) w' => Calls P f args w' (fun e w'' => ∃ v, e = .returned v ∧ T v w'')
  | _ => False
def depB (o : Oper) (j : Nat) : Bool := o.after.toList.any fun e => e.on == j && Region.binds .any e
theorem depB_iff {o : Oper} {j : Nat} : depB o j = true ↔ ∃ k, ∃ h : k < o.after.size, (o.after[k].on == j && Region.binds .any o.after[k]) = true := by
  unfold depB
  rw [List.any_eq_true]
  constructor
  · rintro ⟨e, he, h⟩
    obtain ⟨k, hk, rfl⟩ := Array.mem_iff_getElem.1 (Array.mem_toList_iff.1 he)
    exact ⟨k, hk, h⟩
  · rintro ⟨k, hk, h⟩
    exact ⟨_, Array.mem_toList_iff.2 (Array.getElem_mem hk), h⟩
/-- The claims on the operations that one waits for; all claims. -/
def depK (o : Oper) : List (Nat × (World → Prop)) → World → Prop
  | [], _ => True
  | p :: ks, w => (match depB o p.1 with | true => p.2 w | false => True) ∧ depK o ks w
def allK : List (Nat × (World → Prop)) → World → Prop
  | [], _ => True
  | p :: ks, w => p.2 w ∧ allK ks w
/-- The temporaries of the operations that one waits for; its operands' values, and theirs. -/
def depT (ops : Array Oper) (o : Oper) : List Nat := (List.range ops.size).filterMap fun j => match depB o j with | true => (ops[j]?).bind (·.dst) | false => none
def oargs (ops : Array Oper) (o : Oper) (a : Act) : List Value := o.op.operands.toList.map a.eval ++ (depT ops o).map fun t => a.eval (.tmp t)
def stepC (P : Program) (ops : Array Oper) (W : World) (o : Oper) (c : Clm) (ks : List (Nat × (World → Prop))) (a : Act) : Prop :=
  (Region.wanted o (yielded ops a.tmps) = true ∧
    (c.mode = 0 → ∀ w, uponC P (fun u w' => (∃ n, w' = w.drewN n) ∧ c.S (o.op.operands.toList.map a.eval) u) ((execOp a.eval o).run P w)) ∧
    (c.mode ≠ 0 → ∀ w, Below W.heap.size W w → depK o ks w → uponC P (fun u w' => (c.mode ≠ 2 → Below w.heap.size w w') ∧ Below W.heap.size W w' ∧ c.S (o.op.operands.toList.map a.eval) u ∧ c.K (oargs ops o a) u w') ((execOp a.eval o).run P w))) ∨
  (Region.wanted o (yielded ops a.tmps) = false ∧ c.mode = 0 ∧ c.S (o.op.operands.toList.map a.eval) undef)
def nextK (c : Clm) (i : Nat) (k : World → Prop) (ks : List (Nat × (World → Prop))) : List (Nat × (World → Prop)) :=
  match c.mode with | 0 => ks | 2 => [(i, k)] | _ => (i, k) :: ks
/-- From operation m on they come one behind the other, and behind all others. -/
def tailB (ops : Array Oper) (m : Nat) : Bool := ((List.range m).all fun j => (List.range (m + 1)).any fun k => decide (j < k) && ((ops[k]?).map (depB · j)).getD false) && ((List.range ops.size).all fun k => decide (k ≤ m) || ((ops[k]?).map (depB · (k - 1))).getD false)
/-- The walk in the order of the text. -/
def wpC (P : Program) (ops : Array Oper) (Q : Exit → Act → World → Prop) (W : World) : List Oper → List Clm → Nat → List (Nat × (World → Prop)) → Act → Prop
  | [], [], _, ks, a => ∀ w, Below W.heap.size W w → allK ks w → Q .normal a w
  | _ :: _, [], i, ks, a => tailB ops i = true ∧ ∀ w, Below W.heap.size W w → allK ks w → wpOps P ops Q (List.range' i (ops.size - i)) a w
  | o :: l, c :: cs, i, ks, a => stepC P ops W o c ks a ∧ ∀ v, c.S (o.op.operands.toList.map a.eval) v → wpC P ops Q W l cs (i + 1) (nextK c i (c.K (oargs ops o a) v) ks) (a.put o.dst v)
  | _, _, _, _, _ => False

def puts (V : Nat → Value) (D : Nat → Bool) : List Oper → Nat → Act → Act
  | [], _, a => a
  | o :: l, i, a => puts V D l (i + 1) (if D i then a.put o.dst (V i) else a)

theorem puts_congr {V V' : Nat → Value} {D D' : Nat → Bool} : ∀ (l : List Oper) (i : Nat) (a : Act), (∀ k, i ≤ k → k < i + l.length → D k = D' k ∧ (D k = true → V k = V' k)) → puts V D l i a = puts V' D' l i a
  | [], _, _, _ => rfl
  | o :: l, i, a, h => by
    have h0 := h i (Nat.le_refl _) (by simp)
    have : (if D i then a.put o.dst (V i) else a) = (if D' i then a.put o.dst (V' i) else a) := by
      rw [← h0.1]
      cases hd : D i with
      | false => rfl
      | true => simp [h0.2 hd]
    simp only [puts]
    rw [this]
    exact puts_congr l (i + 1) _ fun k h1 h2 => h k (by omega) (by simp only [List.length_cons]; omega)
theorem puts_none {V : Nat → Value} {D : Nat → Bool} : ∀ (l : List Oper) (i : Nat) (a : Act), (∀ k, i ≤ k → D k = false) → puts V D l i a = a
  | [], _, _, _ => rfl
  | o :: l, i, a, h => by
    simp only [puts, h i (Nat.le_refl _), Bool.false_eq_true, if_false]
    exact puts_none l (i + 1) a fun k hk => h k (by omega)
theorem puts_comm {V : Nat → Value} {D : Nat → Bool} {x : Option Tmp} {u : Value} : ∀ (l : List Oper) (i : Nat) (a : Act), (∀ o ∈ l, ∀ d, x = some d → o.dst ≠ some d) → puts V D l i (a.put x u) = (puts V D l i a).put x u
  | [], _, _, _ => rfl
  | o :: l, i, a, h => by
    simp only [puts]
    have h0 := h o (by simp)
    have : (if D i then (a.put x u).put o.dst (V i) else a.put x u) = (if D i then a.put o.dst (V i) else a).put x u := by
      cases D i with
      | false => rfl
      | true => exact Act.put_comm a u (V i) h0
    rw [this]
    exact puts_comm l (i + 1) _ fun o' ho' => h o' (by simp [ho'])
theorem puts_put {V : Nat → Value} {D : Nat → Bool} {u : Value} {o : Oper} : ∀ (l : List Oper) (i j : Nat) (a : Act), l[j]? = some o → D (i + j) = false → (∀ k o', l[k]? = some o' → k ≠ j → ∀ d, o.dst = some d → o'.dst ≠ some d) →
    (puts V D l i a).put o.dst u = puts (fun k => if k = i + j then u else V k) (fun k => k == i + j || D k) l i a
  | [], _, _, _, h, _, _ => by simp at h
  | o' :: l, i, 0, a, h, hD, hd => by
    simp only [List.getElem?_cons_zero, Option.some.injEq] at h
    subst h
    simp only [Nat.add_zero] at hD ⊢
    simp only [puts, hD, Bool.false_eq_true, if_false, BEq.rfl, Bool.true_or, if_true]
    rw [← puts_comm l (i + 1) a (u := u) (x := o'.dst) (V := V) (D := D)]
    · exact puts_congr l (i + 1) _ fun k h1 h2 => by
        have : k ≠ i := by omega
        simp [this]
    · intro o'' ho'' d hx
      obtain ⟨k, hk, rfl⟩ := List.getElem_of_mem ho''
      exact hd (k + 1) l[k] (by simp [hk]) (by simp) d hx
  | o' :: l, i, j + 1, a, h, hD, hd => by
    simp only [List.getElem?_cons_succ] at h
    simp only [puts]
    have e : i + (j + 1) = i + 1 + j := by omega
    rw [e] at hD ⊢
    have hi : i ≠ i + 1 + j := by omega
    have hb : (i == i + 1 + j) = false := by simpa using hi
    simp only [hb, Bool.false_or, if_neg hi]
    exact puts_put l (i + 1) j _ h hD fun k o'' hk hne => hd (k + 1) o'' (by simpa using hk) (by omega)
theorem put_look {x y : Act} {t : Nat} {d : Option Tmp} {v v' : Value} (h : x.tmps[t]? = y.tmps[t]?) (hv : d = some t → v = v') : (x.put d v).tmps[t]? = (y.put d v').tmps[t]? := by
  cases d with
  | none => exact h
  | some d =>
    simp only [Act.put]
    by_cases hd : d = t
    · subst hd
      rw [hv rfl]
      simp only [Array.getElem?_setIfInBounds_self]
      by_cases hx : d < x.tmps.size
      · have : d < y.tmps.size := by
          rcases Nat.lt_or_ge d y.tmps.size with h' | h'
          · exact h'
          · rw [Array.getElem?_eq_none h', Array.getElem?_eq_getElem hx] at h; cases h
        simp [hx, this]
      · have : ¬ d < y.tmps.size := by
          intro h'
          rw [Array.getElem?_eq_none (xs := x.tmps) (Nat.le_of_not_lt hx), Array.getElem?_eq_getElem h'] at h; cases h
        simp [hx, this]
    · rw [Array.getElem?_setIfInBounds_ne hd, Array.getElem?_setIfInBounds_ne hd]; exact h
theorem put_skip {x y : Act} {t : Nat} {d : Option Tmp} {v : Value} (h : x.tmps[t]? = y.tmps[t]?) (hd : d ≠ some t) : (x.put d v).tmps[t]? = y.tmps[t]? := by
  cases d with
  | none => exact h
  | some d =>
    simp only [Act.put]
    rw [Array.getElem?_setIfInBounds_ne (by simpa using hd)]; exact h
theorem puts_look {V V' : Nat → Value} {D D' : Nat → Bool} {t : Nat} : ∀ (l : List Oper) (i : Nat) (x y : Act), (∀ k o, l[k]? = some o → o.dst = some t → D (i + k) = D' (i + k) ∧ (D (i + k) = true → V (i + k) = V' (i + k))) → x.tmps[t]? = y.tmps[t]? →
    (puts V D l i x).tmps[t]? = (puts V' D' l i y).tmps[t]?
  | [], _, _, _, _, h => h
  | o :: l, i, x, y, hk, h => by
    simp only [puts]
    refine puts_look l (i + 1) _ _ (fun k o' h1 h2 => by have := hk (k + 1) o' (by simpa using h1) h2; simpa [Nat.add_assoc, Nat.add_comm 1 k] using this) ?_
    by_cases hd : o.dst = some t
    · have := hk 0 o (by simp) hd
      simp only [Nat.add_zero] at this
      rw [← this.1]
      cases hDi : D i with
      | false => exact h
      | true => rw [← this.2 hDi]; exact put_look h fun _ => rfl
    · cases D i <;> cases D' i <;> simp only [if_true, Bool.false_eq_true, if_false]
      · exact h
      · exact (put_skip h.symm hd).symm
      · exact put_skip h hd
      · have h1 : (x.put o.dst (V i)).tmps[t]? = x.tmps[t]? := put_skip rfl hd
        have h2 : (y.put o.dst (V' i)).tmps[t]? = y.tmps[t]? := put_skip rfl hd
        rw [h1, h2]; exact h

theorem opn_look {o : Oper} {x y : Act} (h : ∀ t ∈ o.looksAt ops, x.tmps[t]? = y.tmps[t]?) : o.op.operands.toList.map x.eval = o.op.operands.toList.map y.eval := by
  refine List.map_congr_left fun z hz => ?_
  cases z with
  | tmp t =>
    have := h t (List.mem_append_left _ (List.mem_filterMap.2 ⟨.tmp t, by simpa using hz, rfl⟩))
    simp [Act.eval, this]
  | _ => rfl
theorem exec_look {o : Oper} {x y : Act} (hs : ∀ cs b, o.op ≠ .select cs b) (h : ∀ t ∈ o.looksAt ops, x.tmps[t]? = y.tmps[t]?) :
    execOp x.eval o = execOp y.eval o ∧ Region.wanted o (yielded ops x.tmps) = Region.wanted o (yielded ops y.tmps) := by
  constructor
  · refine execOp_congr o hs fun z hz => ?_
    cases z with
    | tmp t =>
      have := h t (List.mem_append_left _ (List.mem_filterMap.2 ⟨.tmp t, by simpa using hz, rfl⟩))
      simp [Act.eval, this]
    | _ => rfl
  · unfold Region.wanted
    cases hg : o.guard with
    | none => rfl
    | some gw =>
      obtain ⟨g, want⟩ := gw
      have hy : yielded ops x.tmps g = yielded ops y.tmps g := by
        unfold yielded
        cases ht : (ops[g]?).bind (·.dst) with
        | none => rfl
        | some t =>
          have := h t (by simp [Oper.looksAt, hg, ht])
          simp [this]
      simp only [hy]

def opn (V : Nat → Value) (l : List Oper) (i : Nat) (a : Act) (j : Nat) (o : Oper) : List Value := o.op.operands.toList.map (puts V (fun k => decide (k < i + j)) l i a).eval
theorem opn_succ {V : Nat → Value} {o : Oper} {l : List Oper} {i : Nat} {a : Act} {j : Nat} {o' : Oper} : opn V (o :: l) i a (j + 1) o' = opn V l (i + 1) (a.put o.dst (V i)) j o' := by
  unfold opn
  simp only [puts, show i + (j + 1) = i + 1 + j by omega, show i < i + 1 + j by omega, decide_true, if_true]
theorem opn_zero {V : Nat → Value} {l : List Oper} {i : Nat} {a : Act} {o' : Oper} : opn V l i a 0 o' = o'.op.operands.toList.map a.eval := by
  unfold opn
  rw [puts_none l i a fun k hk => by simpa using hk]
def opx (ops : Array Oper) (V : Nat → Value) (l : List Oper) (i : Nat) (a : Act) (j : Nat) (o : Oper) : List Value := oargs ops o (puts V (fun k => decide (k < i + j)) l i a)
theorem opx_succ {V : Nat → Value} {o : Oper} {l : List Oper} {i : Nat} {a : Act} {j : Nat} {o' : Oper} : opx ops V (o :: l) i a (j + 1) o' = opx ops V l (i + 1) (a.put o.dst (V i)) j o' := by
  unfold opx
  simp only [puts, show i + (j + 1) = i + 1 + j by omega, show i < i + 1 + j by omega, decide_true, if_true]
theorem opx_zero {V : Nat → Value} {l : List Oper} {i : Nat} {a : Act} {o' : Oper} : opx ops V l i a 0 o' = oargs ops o' a := by
  unfold opx
  rw [puts_none l i a fun k hk => by simpa using hk]
def valid (V : Nat → Value) (l : List Oper) (cs : List Clm) (i : Nat) (a : Act) : Prop := ∀ (k : Nat) (o : Oper) (c : Clm), l[k]? = some o → cs[k]? = some c → c.S (opn V l i a k o) (V (i + k))
/-- The claims that still stand. -/
def stands (ops : Array Oper) (V : Nat → Value) (l : List Oper) (cs : List Clm) (i : Nat) (a : Act) (w : World) (n : Nat) (X : Nat → Prop) : Prop :=
  ∀ (k : Nat) (o : Oper) (c : Clm), k < n → l[k]? = some o → cs[k]? = some c → X (i + k) → (∀ (b : Nat) (cb : Clm), k < b → b < n → cs[b]? = some cb → cb.mode ≠ 2) → c.K (opx ops V l i a k o) (V (i + k)) w
theorem stands_tail {V : Nat → Value} {o : Oper} {l : List Oper} {c : Clm} {cs : List Clm} {i : Nat} {a : Act} {w : World} {n : Nat} {X : Nat → Prop} (h : stands ops V (o :: l) (c :: cs) i a w (n + 1) X) : stands ops V l cs (i + 1) (a.put o.dst (V i)) w n X := by
  intro k o' c' hk ho hc hX hb
  have := h (k + 1) o' c' (by omega) (by simpa using ho) (by simpa using hc) (by simpa [Nat.add_assoc, Nat.add_comm 1 k] using hX) (fun b cb h1 h2 h3 => by
    obtain ⟨b, rfl⟩ : ∃ b', b = b' + 1 := ⟨b - 1, by omega⟩
    exact hb b cb (by omega) (by omega) (by simpa using h3))
  rw [opx_succ] at this
  simpa [Nat.add_assoc, Nat.add_comm 1 k] using this
theorem nextK_dep {o : Oper} {c : Clm} {i : Nat} {k : World → Prop} {ks : List (Nat × (World → Prop))} {w : World} (h1 : depB o i = true → k w) (h2 : c.mode ≠ 2 → depK o ks w) : depK o (nextK c i k ks) w := by
  have h3 : (match depB o i with | true => k w | false => True) := by
    cases hd : depB o i with
    | false => trivial
    | true => exact h1 hd
  unfold nextK
  split
  · exact h2 (by omega)
  · exact ⟨h3, trivial⟩
  · exact ⟨h3, h2 (by assumption)⟩
theorem nextK_all {c : Clm} {i : Nat} {k : World → Prop} {ks : List (Nat × (World → Prop))} {w : World} (h1 : k w) (h2 : c.mode ≠ 2 → allK ks w) : allK (nextK c i k ks) w := by
  unfold nextK
  split
  · exact h2 (by omega)
  · exact ⟨h1, trivial⟩
  · exact ⟨h1, h2 (by assumption)⟩
def noBar (cs : List Clm) (n : Nat) : Prop := ∀ (b : Nat) (cb : Clm), b < n → cs[b]? = some cb → cb.mode ≠ 2
/-- What the walk in the order of the text has told of each operation. -/
theorem wpC_unroll {V : Nat → Value} : ∀ (l : List Oper) (cs : List Clm) (i : Nat) (ks : List (Nat × (World → Prop))) (a : Act), wpC P ops Q W l cs i ks a → valid V l cs i a →
    (∀ j o, l[j]? = some o →
      (∃ c ks', cs[j]? = some c ∧ stepC P ops W o c ks' (puts V (fun k => decide (k < i + j)) l i a) ∧ ∀ w, stands ops V l cs i a w j (fun k => depB o k = true) → (noBar cs j → depK o ks w) → depK o ks' w) ∨
      (cs.length ≤ j ∧ tailB ops (i + cs.length) = true ∧ ∀ w, Below W.heap.size W w → stands ops V l cs i a w cs.length (fun _ => True) → (noBar cs cs.length → allK ks w) → wpOps P ops Q (List.range' (i + cs.length) (ops.size - (i + cs.length))) (puts V (fun k => decide (k < i + cs.length)) l i a) w)) ∧
    (cs.length = l.length → ∀ w, Below W.heap.size W w → stands ops V l cs i a w cs.length (fun _ => True) → (noBar cs cs.length → allK ks w) → Q .normal (puts V (fun _ => true) l i a) w)
  | [], [], i, ks, a, h, hV => ⟨fun j o hj => by simp at hj, fun _ w hb _ hk => h w hb (hk fun b cb h1 => by simp at h1)⟩
  | [], c :: cs, i, ks, a, h, hV => (by unfold wpC at h; exact h.elim)
  | o :: l, [], i, ks, a, h, hV => by
    unfold wpC at h
    refine ⟨fun j o' hj => ?_, fun hl => by simp at hl⟩
    refine .inr ⟨by simp, by simpa using h.1, fun w hb _ hk => ?_⟩
    simp only [List.length_nil, Nat.add_zero]
    rw [puts_none (o :: l) i a fun k hk => by simpa using hk]
    exact h.2 w hb (hk fun b cb h1 h2 => by simp at h2)
  | o :: l, c :: cs, i, ks, a, h, hV => by
    simp only [wpC] at h
    obtain ⟨h1, h2⟩ := h
    have hS := hV 0 o c (by simp) (by simp)
    rw [opn_zero] at hS
    have ih := wpC_unroll l cs (i + 1) _ (a.put o.dst (V i)) (h2 _ hS) (fun k o' c' ho hk => by
      have := hV (k + 1) o' c' (by simpa using ho) (by simpa using hk)
      rw [opn_succ] at this
      simpa [Nat.add_assoc, Nat.add_comm 1 k] using this)
    have bars : ∀ n, noBar cs n → ∀ (b : Nat) (cb : Clm), 0 < b → b < n + 1 → (c :: cs)[b]? = some cb → cb.mode ≠ 2 := fun n hn b cb h1 h2 h3 => by
      obtain ⟨b, rfl⟩ : ∃ b', b = b' + 1 := ⟨b - 1, by omega⟩
      exact hn b cb (by omega) (by simpa using h3)
    have bars' : ∀ n, noBar cs n → c.mode ≠ 2 → noBar (c :: cs) (n + 1) := fun n hn hc b cb h2 h3 => by
      cases b with
      | zero => simp at h3; subst h3; exact hc
      | succ b => exact hn b cb (by omega) (by simpa using h3)
    refine ⟨fun j o' hj => ?_, fun hl w hb hk hks => ?_⟩
    · cases j with
      | zero =>
        simp only [List.getElem?_cons_zero, Option.some.injEq] at hj
        subst hj
        refine .inl ⟨c, ks, by simp, ?_, fun w _ hk => hk fun b cb h1 => by omega⟩
        rw [puts_none (o :: l) i a fun k hk => by simpa using hk]
        exact h1
      | succ j =>
        simp only [List.getElem?_cons_succ] at hj
        have e : i + (j + 1) = i + 1 + j := by omega
        have ep : puts V (fun k => decide (k < i + (j + 1))) (o :: l) i a = puts V (fun k => decide (k < i + 1 + j)) l (i + 1) (a.put o.dst (V i)) := by
          simp only [puts, e, show i < i + 1 + j by omega, decide_true, if_true]
        rcases ih.1 j o' hj with ⟨c', ks', g1, g2, g3⟩ | ⟨g1, g3, g4⟩
        · refine .inl ⟨c', ks', by simpa using g1, by rw [ep]; exact g2, fun w hw hk => g3 w (stands_tail hw) fun hn => ?_⟩
          refine nextK_dep (fun hd => ?_) fun hc => hk (bars' _ hn hc)
          have := hw 0 o c (by omega) (by simp) (by simp) (by simpa using hd) (bars _ hn)
          rw [opx_zero] at this
          exact this
        · have e2 : i + (c :: cs).length = i + 1 + cs.length := by simp only [List.length_cons]; omega
          have ep2 : puts V (fun k => decide (k < i + (c :: cs).length)) (o :: l) i a = puts V (fun k => decide (k < i + 1 + cs.length)) l (i + 1) (a.put o.dst (V i)) := by
            simp only [puts, e2, show i < i + 1 + cs.length by omega, decide_true, if_true]
          refine .inr ⟨by simp only [List.length_cons]; omega, by rw [e2]; exact g3, fun w hb hk hks => ?_⟩
          rw [ep2, e2]
          refine g4 w hb (stands_tail hk) fun hn => ?_
          refine nextK_all ?_ fun hc => hks (bars' _ hn hc)
          have := hk 0 o c (by simp) (by simp) (by simp) trivial (bars _ hn)
          rw [opx_zero] at this
          exact this
    · simp only [puts, if_true]
      refine ih.2 (by simpa using hl) w hb (stands_tail hk) fun hn => ?_
      refine nextK_all ?_ fun hc => hks (bars' _ hn hc)
      have := hk 0 o c (by simp) (by simp) (by simp) trivial (bars _ hn)
      rw [opx_zero] at this
      exact this

def planB (ops : Array Oper) : Bool := Region.noSelect ops && (List.range ops.size).all fun i => match ops[i]? with
  | none => true
  | some o => (o.after.all fun e => !Region.binds .any e || decide (e.on < i)) && (List.range ops.size).all fun j => match ops[j]? with
    | none => true
    | some oj => match oj.dst with
      | none => true
      | some d => (!(o.looksAt ops).contains d || (depB o j || (decide (i < j) && depB oj i))) && (i == j || o.dst != some d)
theorem planB_spec (h : planB ops = true) : (∀ (j : Nat) (o : Oper) cs b, ops[j]? = some o → o.op ≠ .select cs b) ∧
    ∀ i o, ops[i]? = some o → (∀ j, depB o j = true → j < i) ∧ ∀ j oj d, ops[j]? = some oj → oj.dst = some d → (d ∈ o.looksAt ops → depB o j = true ∨ (i < j ∧ depB oj i = true)) ∧ (i ≠ j → o.dst ≠ some d) := by
  simp only [planB, Bool.and_eq_true] at h
  refine ⟨Region.noSelect_spec h.1, fun i o hi => ?_⟩
  have hlt : i < ops.size := (Array.getElem?_eq_some_iff.1 hi).1
  have h1 := List.all_eq_true.1 h.2 i (List.mem_range.2 hlt)
  rw [hi] at h1
  simp only [Bool.and_eq_true] at h1
  refine ⟨fun j hj => ?_, fun j oj d hoj hd => ?_⟩
  · rw [depB_iff] at hj
    obtain ⟨k, hk, hj⟩ := hj
    have := Array.all_eq_true.1 h1.1 k hk
    simp only [Bool.and_eq_true, beq_iff_eq] at hj
    rw [hj.2, hj.1] at this
    simpa using this
  · have hltj : j < ops.size := (Array.getElem?_eq_some_iff.1 hoj).1
    have h2 := List.all_eq_true.1 h1.2 j (List.mem_range.2 hltj)
    rw [hoj] at h2
    simp only [hd] at h2
    simp only [Bool.and_eq_true, Bool.or_eq_true, decide_eq_true_eq] at h2
    refine ⟨fun hm => h2.1.resolve_left ?_, fun hne => ?_⟩
    · simpa using hm
    · have := h2.2.resolve_left (by simpa using hne)
      simpa using this

def cnt (f : Nat → Bool) : Nat → Nat | 0 => 0 | n + 1 => cnt f n + (if f n then 0 else 1)
theorem cnt_zero {f : Nat → Bool} : ∀ {n : Nat}, cnt f n = 0 → ∀ j, j < n → f j = true
  | 0, _, _, hj => absurd hj (Nat.not_lt_zero _)
  | n + 1, h, j, hj => by
    simp only [cnt] at h
    by_cases hjn : j = n
    · subst hjn
      cases hf : f j with
      | true => rfl
      | false => rw [hf] at h; simp at h
    · exact cnt_zero (n := n) (by omega) j (by omega)
theorem cnt_same {f g : Nat → Bool} : ∀ {n : Nat}, (∀ j, j < n → f j = g j) → cnt f n = cnt g n
  | 0, _ => rfl
  | n + 1, h => by simp only [cnt]; rw [cnt_same (n := n) fun j hj => h j (by omega), h n (by omega)]
theorem cnt_set {f g : Nat → Bool} {i : Nat} (h0 : f i = false) (h1 : g i = true) (h2 : ∀ j, j ≠ i → g j = f j) : ∀ {n : Nat}, i < n → cnt f n = cnt g n + 1
  | 0, h => absurd h (Nat.not_lt_zero _)
  | n + 1, h => by
    simp only [cnt]
    by_cases hin : i = n
    · subst hin
      rw [cnt_same (f := f) (g := g) fun j hj => (h2 j (by omega)).symm, h0, h1]; simp
    · rw [cnt_set h0 h1 h2 (n := n) (by omega), h2 n (fun e => hin e.symm)]; omega
theorem uponC_op {T : Value → World → Prop} {o : Oper} {a : Act} {w : World} {K : Act → World → Prop} (hK : ∀ u w', T u w' → K (a.put o.dst u) w') (h : uponC P T ((execOp a.eval o).run P w)) : o.wp P a w K Q := by
  unfold Oper.wp
  cases hr : (execOp a.eval o).run P w with
  | ok n w' =>
    rw [hr] at h
    cases n with
    | value u => exact hK _ _ h
    | skip => exact hK _ _ h
    | enter f args =>
      simp only [Oper.upon]
      refine Calls.mono h ?_
      rintro e w'' ⟨v, rfl, hT⟩
      exact hK _ _ hT
    | _ => exact h.elim
  | halt x w' => rw [hr] at h; exact h.elim
/-- An operation waits for another, perhaps through others. -/
def reachB (ops : Array Oper) : Nat → Nat → Nat → Bool
  | 0, _, _ => false
  | n + 1, i, j => match ops[i]? with
    | none => false
    | some o => depB o j || (List.range i).any fun k => depB o k && reachB ops n k j
theorem reachB_down {ops : Array Oper} {D : Nat → Bool} (hdown : ∀ j o, ops[j]? = some o → D j = true → ∀ k, depB o k = true → D k = true) : ∀ n i j, reachB ops n i j = true → D i = true → D j = true
  | 0, _, _, h, _ => by cases h
  | n + 1, i, j, h, hD => by
    unfold reachB at h
    split at h
    · cases h
    · rename_i o ho
      rw [Bool.or_eq_true] at h
      rcases h with h | h
      · exact hdown i o ho hD j h
      · obtain ⟨k, _, hk⟩ := List.any_eq_true.1 h
        rw [Bool.and_eq_true] at hk
        exact reachB_down hdown n k j hk.2 (hdown i o ho hD k hk.1)
/-- What writes stands apart from all that asks the world. -/
def barB (ops : Array Oper) (ms : List Nat) : Bool := (List.range ops.size).all fun i => !(ms[i]? == some 2) || (List.range ops.size).all fun j => j == i || (ms[j]? == some 0) || (ms[j]? == none) ||
  (decide (j < i) && reachB ops 4 i j) || (decide (i < j) && reachB ops 4 j i)
theorem barB_spec {cs : List Clm} (h : barB ops (cs.map (·.mode)) = true) {i j : Nat} {oi oj : Oper} {ci cj : Clm} (hi : ops[i]? = some oi) (hj : ops[j]? = some oj) (hci : cs[i]? = some ci) (hcj : cs[j]? = some cj) (h2 : ci.mode = 2) (h0 : cj.mode ≠ 0) (hne : j ≠ i) :
    (j < i ∧ reachB ops 4 i j = true) ∨ (i < j ∧ reachB ops 4 j i = true) := by
  have hlti : i < ops.size := (Array.getElem?_eq_some_iff.1 hi).1
  have hltj : j < ops.size := (Array.getElem?_eq_some_iff.1 hj).1
  have := List.all_eq_true.1 h i (List.mem_range.2 hlti)
  simp only [List.getElem?_map, hci, Option.map_some, h2, BEq.rfl, Bool.not_true, Bool.false_or] at this
  have := List.all_eq_true.1 this j (List.mem_range.2 hltj)
  simp only [hi, hj, hcj, Option.map_some, Option.getD_some, Bool.or_eq_true, Bool.and_eq_true, decide_eq_true_eq, beq_iff_eq, Option.some.injEq, reduceCtorEq, or_false] at this
  rcases this with ((h | h) | h) | h
  · exact absurd h hne
  · exact absurd h h0
  · exact .inl h
  · exact .inr h
section
variable {cs : List Clm} {a0 : Act}
theorem opn_congr (hB : planB ops = true) {V V' : Nat → Value} {k : Nat} {o : Oper} (ho : ops[k]? = some o) (h : ∀ j, depB o j = true → V j = V' j) : opn V ops.toList 0 a0 k o = opn V' ops.toList 0 a0 k o := by
  obtain ⟨_, hpl⟩ := planB_spec hB
  refine opn_look (ops := ops) fun t ht => puts_look ops.toList 0 a0 a0 (fun q oq hq hd => ⟨rfl, fun hD => ?_⟩) rfl
  rcases ((hpl k o ho).2 q oq t (by simpa using hq) hd).1 ht with this | ⟨this, _⟩
  · simpa using h q this
  · simp at hD; omega
theorem opx_congr (hB : planB ops = true) {V V' : Nat → Value} {k : Nat} {o : Oper} (ho : ops[k]? = some o) (h : ∀ j, depB o j = true → V j = V' j) : opx ops V ops.toList 0 a0 k o = opx ops V' ops.toList 0 a0 k o := by
  obtain ⟨_, hpl⟩ := planB_spec hB
  have h1 := opn_congr (a0 := a0) (V' := V') hB ho h
  unfold opx oargs
  unfold opn at h1
  rw [h1]
  congr 1
  refine List.map_congr_left fun t ht => ?_
  obtain ⟨j, _, hj⟩ := List.mem_filterMap.1 ht
  have hdj : depB o j = true ∧ (ops[j]?).bind (·.dst) = some t := by
    cases hd : depB o j with
    | true => rw [hd] at hj; exact ⟨rfl, hj⟩
    | false => rw [hd] at hj; cases hj
  obtain ⟨oj, hoj, hdst⟩ := Option.bind_eq_some_iff.1 hdj.2
  have := puts_look (V := V) (V' := V') (D := fun q => decide (q < 0 + k)) (D' := fun q => decide (q < 0 + k)) (t := t) ops.toList 0 a0 a0 (fun q oq hq hd => ⟨rfl, fun hD => ?_⟩) rfl
  · simp only [Nat.zero_add] at this
    simp [Act.eval, this]
  · have hq' : ops[q]? = some oq := by simpa using hq
    by_cases hqj : q = j
    · subst hqj
      simpa using h q hdj.1
    · exact absurd hd (((hpl q oq hq').2 j oj t hoj hdst).2 hqj)
theorem extend (hB : planB ops = true) (V : Nat → Value) (D : Nat → Bool) (hdown : ∀ j o, ops[j]? = some o → D j = true → ∀ k, depB o k = true → D k = true)
    (hV : ∀ (k : Nat) (o : Oper) (c : Clm), D k = true → ops[k]? = some o → cs[k]? = some c → c.S (opn V ops.toList 0 a0 k o) (V k)) :
    ∃ V' : Nat → Value, (∀ k, D k = true → V' k = V k) ∧ valid V' ops.toList cs 0 a0 := by
  obtain ⟨_, hpl⟩ := planB_spec hB
  have key : ∀ n : Nat, ∃ V' : Nat → Value, (∀ k, D k = true → V' k = V k) ∧ ∀ (k : Nat) (o : Oper) (c : Clm), k < n → ops[k]? = some o → cs[k]? = some c → c.S (opn V' ops.toList 0 a0 k o) (V' k) := by
    intro n
    induction n with
    | zero => exact ⟨V, fun _ _ => rfl, fun k o c hk => by omega⟩
    | succ n ih =>
      obtain ⟨V1, h1, h2⟩ := ih
      cases hD : D n with
      | true =>
        refine ⟨V1, h1, fun k o c hk ho hc => ?_⟩
        by_cases hkn : k = n
        · subst hkn
          rw [opn_congr hB ho fun j hj => h1 j (hdown k o ho hD j hj), h1 k hD]
          exact hV k o c hD ho hc
        · exact h2 k o c (by omega) ho hc
      | false =>
        cases hon : ops[n]? with
        | none => exact ⟨V1, h1, fun k o c hk ho hc => by
            by_cases hkn : k = n
            · subst hkn; rw [hon] at ho; cases ho
            · exact h2 k o c (by omega) ho hc⟩
        | some on =>
          cases hcn : cs[n]? with
          | none => exact ⟨V1, h1, fun k o c hk ho hc => by
              by_cases hkn : k = n
              · subst hkn; rw [hcn] at hc; cases hc
              · exact h2 k o c (by omega) ho hc⟩
          | some cn =>
            obtain ⟨u, hu⟩ := cn.ex (opn V1 ops.toList 0 a0 n on)
            refine ⟨fun k => if k = n then u else V1 k, fun k hk => ?_, fun k o c hk ho hc => ?_⟩
            · have : k ≠ n := by rintro rfl; rw [hD] at hk; cases hk
              simp [this, h1 k hk]
            · rw [opn_congr (V' := V1) hB ho fun j hj => by
                have := (hpl k o ho).1 j hj
                simp [show j ≠ n by omega]]
              by_cases hkn : k = n
              · subst hkn
                rw [hon] at ho; cases ho
                rw [hcn] at hc; cases hc
                simpa using hu
              · simp only [if_neg hkn]
                exact h2 k o c (by omega) ho hc
  obtain ⟨V', h1, h2⟩ := key ops.size
  refine ⟨V', h1, fun k o c ho hc => ?_⟩
  have ho' : ops[k]? = some o := by simpa using ho
  have hlt : k < ops.size := (Array.getElem?_eq_some_iff.1 ho').1
  simpa using h2 k o c hlt ho' hc
theorem wpAny_tail {m : Nat} (hB : planB ops = true) (chain : ∀ k, m < k → k < ops.size → ∀ ok, ops[k]? = some ok → depB ok (k - 1) = true) :
    ∀ (fuel q : Nat) (listed : Array Bool) (a : Act) (w : World), listed.size = ops.size → m ≤ q → q ≤ ops.size → (∀ k, k < q → listed.getD k false = true) → (∀ k, q ≤ k → k < ops.size → listed.getD k false = false) →
      cnt (fun k => listed.getD k false) ops.size ≤ fuel → wpOps P ops Q (List.range' q (ops.size - q)) a w → wpAny P .any ops Q fuel listed a w := by
  obtain ⟨_, hpl⟩ := planB_spec hB
  intro fuel
  have conv : ∀ (listed : Array Bool), listed.size = ops.size → ∀ j, j < ops.size → listed.getD j true = listed.getD j false := fun listed hsz j hj => by
    simp only [Array.getD_eq_getD_getElem?]
    rw [Array.getElem?_eq_getElem (by omega)]; rfl
  have only : ∀ (q : Nat) (listed : Array Bool), listed.size = ops.size → m ≤ q → (∀ k, k < q → listed.getD k false = true) → (∀ k, q ≤ k → k < ops.size → listed.getD k false = false) → ∀ j ∈ Region.ready .any ops listed, j = q ∧ q < ops.size := by
    intro q listed hsz hm h1 h2 j hj
    obtain ⟨h0, o, ho, hafter⟩ := mem_ready.1 hj
    have hlt : j < ops.size := (Array.getElem?_eq_some_iff.1 ho).1
    rw [conv listed hsz j hlt] at h0
    rcases Nat.lt_or_ge j q with h | h
    · rw [h1 j h] at h0; cases h0
    · rcases Nat.lt_or_ge q j with h' | h'
      · have hd := chain j (by omega) hlt o ho
        rw [depB_iff] at hd
        obtain ⟨k, hk, hd⟩ := hd
        simp only [Bool.and_eq_true, beq_iff_eq] at hd
        have := hafter o.after[k] (Array.getElem_mem hk) hd.2
        rw [hd.1] at this
        rw [h2 (j - 1) (by omega) (by omega)] at this; cases this
      · exact ⟨by omega, by omega⟩
  have here : ∀ (q : Nat) (listed : Array Bool), listed.size = ops.size → (∀ k, k < q → listed.getD k false = true) → (∀ k, q ≤ k → k < ops.size → listed.getD k false = false) → q < ops.size → q ∈ Region.ready .any ops listed := by
    intro q listed hsz h1 h2 hq
    refine mem_ready.2 ⟨by rw [conv listed hsz q hq]; exact h2 q (Nat.le_refl _) hq, ops[q], Array.getElem?_eq_getElem hq, fun e he hbd => ?_⟩
    have hd : depB ops[q] e.on = true := by
      rw [depB_iff]
      obtain ⟨k, hk, rfl⟩ := Array.mem_iff_getElem.1 he
      exact ⟨k, hk, by simp [hbd]⟩
    exact h1 _ ((hpl q ops[q] (Array.getElem?_eq_getElem hq)).1 _ hd)
  induction fuel with
  | zero =>
    intro q listed a w hsz hm hq h1 h2 hcnt h
    have hall := cnt_zero (Nat.le_zero.1 hcnt)
    have hqe : q = ops.size := by
      rcases Nat.lt_or_ge q ops.size with h' | h'
      · have := h2 q (Nat.le_refl _) h'
        rw [hall q h'] at this; cases this
      · omega
    subst hqe
    refine ⟨?_, by simpa [wpOps] using h⟩
    refine List.eq_nil_iff_forall_not_mem.2 fun j hj => ?_
    have := only ops.size listed hsz hm h1 h2 j hj
    omega
  | succ fuel ih =>
    intro q listed a w hsz hm hq h1 h2 hcnt h
    refine ⟨fun hnil => ?_, fun j hj => ?_⟩
    · rcases Nat.lt_or_ge q ops.size with h' | h'
      · have := here q listed hsz h1 h2 h'
        rw [hnil] at this; cases this
      · have hqe : q = ops.size := by omega
        subst hqe
        simpa [wpOps] using h
    · obtain ⟨rfl, hlt⟩ := only q listed hsz hm h1 h2 j hj
      rw [show ops.size - j = (ops.size - (j + 1)) + 1 by omega, List.range'_succ, wpOps_cons] at h
      have hgo : ∀ k, (listed.setIfInBounds j true).getD k false = (k == j || listed.getD k false) := fun k => by
        by_cases hkj : k = j
        · subst hkj; simp [show k < listed.size by omega]
        · rw [getD_set_ne false (fun e => hkj e.symm)]; simp [hkj]
      refine wpOp_mono (fun a' w' hq' => ?_) h
      refine ih (j + 1) _ a' w' (by simpa using hsz) (by omega) (by omega) (fun k hk => ?_) (fun k hk hk' => ?_) ?_ hq'
      · rw [hgo]
        by_cases hkj : k = j
        · simp [hkj]
        · rw [h1 k (by omega)]; simp
      · rw [hgo, h2 k (by omega) hk']; simp; omega
      · have := cnt_set (f := fun k => listed.getD k false) (g := fun k => (listed.setIfInBounds j true).getD k false) (i := j) (h2 j (Nat.le_refl _) hlt) (by simp only [hgo]; simp) (fun k hk => by simp only [hgo]; simp [hk]) hlt
        omega
theorem wpAny_plan (hB : planB ops = true) (hbar : barB ops (cs.map (·.mode)) = true) (hlen : cs.length ≤ ops.size) (hw : wpC P ops Q W ops.toList cs 0 [] a0) :
    ∀ (fuel : Nat) (listed : Array Bool) (a : Act) (w : World) (V : Nat → Value), listed.size = ops.size →
      (∀ (k : Nat) (o : Oper) (c : Clm), listed.getD k false = true → ops[k]? = some o → cs[k]? = some c → c.S (opn V ops.toList 0 a0 k o) (V k)) →
      a = puts V (fun k => listed.getD k false) ops.toList 0 a0 → Below W.heap.size W w →
      (∀ (k : Nat) (o : Oper) (c : Clm), listed.getD k false = true → ops[k]? = some o → cs[k]? = some c → (∀ (b : Nat) (cb : Clm), k < b → cs[b]? = some cb → listed.getD b false = true → cb.mode ≠ 2) → c.K (opx ops V ops.toList 0 a0 k o) (V k) w) →
      (∀ j o, ops[j]? = some o → listed.getD j false = true → ∀ k, depB o k = true → listed.getD k false = true) →
      cnt (fun k => listed.getD k false) ops.size ≤ fuel → (∀ k, cs.length ≤ k → k < ops.size → listed.getD k false = false) → cs.length ≤ ops.size → wpAny P .any ops Q fuel listed a w := by
  obtain ⟨hsel, hpl⟩ := planB_spec hB
  have full : ∀ (listed : Array Bool) (a : Act) (w : World) (V : Nat → Value),
      (∀ (k : Nat) (o : Oper) (c : Clm), listed.getD k false = true → ops[k]? = some o → cs[k]? = some c → c.S (opn V ops.toList 0 a0 k o) (V k)) → a = puts V (fun k => listed.getD k false) ops.toList 0 a0 → Below W.heap.size W w →
      (∀ (k : Nat) (o : Oper) (c : Clm), listed.getD k false = true → ops[k]? = some o → cs[k]? = some c → (∀ (b : Nat) (cb : Clm), k < b → cs[b]? = some cb → listed.getD b false = true → cb.mode ≠ 2) → c.K (opx ops V ops.toList 0 a0 k o) (V k) w) →
      (∀ j, j < ops.size → listed.getD j false = true) → cs.length = ops.size → Q .normal a w := by
    intro listed a w V hV ha hb hK hall hcl
    have := (wpC_unroll (V := V) ops.toList cs 0 [] a0 hw (fun k o c ho hk => by
      have ho' : ops[k]? = some o := by simpa using ho
      simpa using hV k o c (hall k (Array.getElem?_eq_some_iff.1 ho').1) ho' hk)).2 (by simpa using hcl) w hb
      (fun k o c hlt ho hk _ hnb => by
        have ho' : ops[k]? = some o := by simpa using ho
        have := hK k o c (hall k (by omega)) ho' hk (fun b cb h1 h2 h3 => hnb b cb h1 (List.getElem?_eq_some_iff.1 h2).1 h2)
        simpa using this) (fun _ => trivial)
    rw [ha, puts_congr (V' := V) (D' := fun _ => true) ops.toList 0 a0 fun k _ h2 => ⟨hall k (by simpa using h2), fun _ => rfl⟩]
    exact this
  intro fuel
  induction fuel with
  | zero =>
    intro listed a w V hsz hV ha hb hK hdown hcnt hlast hcl
    have hall := cnt_zero (Nat.le_zero.1 hcnt)
    have hcl' : cs.length = ops.size := by
      rcases Nat.lt_or_ge cs.length ops.size with h | h
      · have h1 := hlast cs.length (Nat.le_refl _) h
        have h2 := hall cs.length h
        rw [h1] at h2; cases h2
      · omega
    refine ⟨?_, full listed a w V hV ha hb hK hall hcl'⟩
    refine List.eq_nil_iff_forall_not_mem.2 fun j hj => ?_
    obtain ⟨h0, o, ho, _⟩ := mem_ready.1 hj
    have hlt : j < ops.size := (Array.getElem?_eq_some_iff.1 ho).1
    have := hall j hlt
    simp only [Array.getD_eq_getD_getElem?] at h0 this
    rw [Array.getElem?_eq_getElem (by omega)] at h0 this
    simp at h0 this
    rw [h0] at this; cases this
  | succ fuel ih =>
    intro listed a w V hsz hV ha hb hK hdown hcnt hlast hcl
    have conv : ∀ j, j < ops.size → listed.getD j true = listed.getD j false := fun j hj => by
      simp only [Array.getD_eq_getD_getElem?]
      rw [Array.getElem?_eq_getElem (by omega)]; rfl
    refine ⟨fun hnil => ?_, fun i hi => ?_⟩
    · have hall : ∀ j, j < ops.size → listed.getD j false = true := by
        intro j
        induction j using Nat.strongRecOn with
        | ind j ihj =>
          intro hj
          cases hl : listed.getD j false with
          | true => rfl
          | false =>
            have : j ∈ Region.ready .any ops listed := mem_ready.2 ⟨by rw [conv j hj]; exact hl, ops[j], Array.getElem?_eq_getElem hj, fun e he hbd => by
              have hd : depB ops[j] e.on = true := by
                rw [depB_iff]
                obtain ⟨k, hk, rfl⟩ := Array.mem_iff_getElem.1 he
                exact ⟨k, hk, by simp [hbd]⟩
              have hlt := (hpl j ops[j] (Array.getElem?_eq_getElem hj)).1 _ hd
              exact ihj _ hlt (by omega)⟩
            rw [hnil] at this; cases this
      have hcl' : cs.length = ops.size := by
        rcases Nat.lt_or_ge cs.length ops.size with h | h
        · have h1 := hlast cs.length (Nat.le_refl _) h
          have h2 := hall cs.length h
          rw [h1] at h2; cases h2
        · omega
      exact full listed a w V hV ha hb hK hall hcl'
    · obtain ⟨h0, o, ho, hafter⟩ := mem_ready.1 hi
      have hlt : i < ops.size := (Array.getElem?_eq_some_iff.1 ho).1
      have h0' : listed.getD i false = false := by rw [← conv i hlt]; exact h0
      have hdeps : ∀ k, depB o k = true → listed.getD k false = true := fun k hk => by
        rw [depB_iff] at hk
        obtain ⟨q, hq, hk⟩ := hk
        simp only [Bool.and_eq_true, beq_iff_eq] at hk
        have := hafter o.after[q] (Array.getElem_mem hq) hk.2
        rw [hk.1] at this; exact this
      have hgo : ∀ j, (listed.setIfInBounds i true).getD j false = (j == i || listed.getD j false) := fun j => by
        by_cases hji : j = i
        · subst hji; simp [show j < listed.size by omega]
        · rw [getD_set_ne false (fun e => hji e.symm)]; simp [hji]
      obtain ⟨V1, hV1, hval⟩ := extend (cs := cs) (a0 := a0) hB V (fun k => listed.getD k false) hdown hV
      have hlook : ∀ t ∈ o.looksAt ops, (puts V1 (fun k => decide (k < 0 + i)) ops.toList 0 a0).tmps[t]? = a.tmps[t]? := fun t ht => by
        rw [ha]
        refine puts_look ops.toList 0 a0 a0 (fun k ok hk hd => ?_) rfl
        have hk' : ops[k]? = some ok := by simpa using hk
        simp only [Nat.zero_add]
        rcases ((hpl i o ho).2 k ok t hk' hd).1 ht with hdep | ⟨hik, hdep⟩
        · have h1 := (hpl i o ho).1 k hdep
          have h2 := hdeps k hdep
          exact ⟨by rw [h2]; simpa using h1, fun _ => hV1 k h2⟩
        · refine ⟨?_, fun hD => by simp at hD; omega⟩
          cases hl : listed.getD k false with
          | false => simp; omega
          | true => have := hdown k ok hk' hl i hdep; rw [h0'] at this; cases this
      obtain ⟨he, hwn⟩ := exec_look (ops := ops) (hsel i o · · ho) hlook
      have hoa : o.op.operands.toList.map (puts V1 (fun k => decide (k < 0 + i)) ops.toList 0 a0).eval = opn V ops.toList 0 a0 i o := opn_congr (V' := V) hB ho fun j hj => hV1 j (hdeps j hj)
      have hoax : oargs ops o (puts V1 (fun k => decide (k < 0 + i)) ops.toList 0 a0) = opx ops V ops.toList 0 a0 i o := opx_congr (V' := V) hB ho fun j hj => hV1 j (hdeps j hj)
      rcases (wpC_unroll (V := V1) ops.toList cs 0 [] a0 hw hval).1 i o (by simpa using ho) with ⟨c, ks', g1, g2, g3⟩ | ⟨hcs, g3, g4⟩
      · have hi' : i < cs.length := (List.getElem?_eq_some_iff.1 g1).1
        have hks : c.mode ≠ 0 → depK o ks' w := fun hm0 => g3 w (fun k ok ck hki hok hck hd hnb => by
          have hok' : ops[k]? = some ok := by simpa using hok
          have hd' : depB o k = true := by simpa using hd
          have hDk := hdeps k hd'
          have := hK k ok ck hDk hok' hck (fun b cb hkb hcb hDb hm => by
            have hbl : b < cs.length := (List.getElem?_eq_some_iff.1 hcb).1
            have hob : ops[b]? = some ops[b] := Array.getElem?_eq_getElem (by omega)
            by_cases hbi : b < i
            · exact hnb b cb hkb hbi hcb hm
            · have hbne : i ≠ b := by rintro rfl; rw [h0'] at hDb; cases hDb
              rcases barB_spec hbar hob ho hcb g1 hm hm0 hbne with ⟨_, h⟩ | ⟨h, _⟩
              · have := reachB_down (D := fun k => listed.getD k false) hdown 4 b i h hDb
                rw [h0'] at this; cases this
              · omega)
          rw [opx_congr (V' := V) hB hok' fun j hj => hV1 j (hdown k ok hok' hDk j hj)]
          simpa [hV1 k hDk] using this) (fun _ => trivial)
        have next : ∀ u w', (c.mode ≠ 2 → Below w.heap.size w w') ∧ Below W.heap.size W w' ∧ c.S (opn V ops.toList 0 a0 i o) u ∧ c.K (opx ops V ops.toList 0 a0 i o) u w' → wpAny P .any ops Q fuel (listed.setIfInBounds i true) (a.put o.dst u) w' := by
          rintro u w' ⟨hbl, hbW, hSu, hKu⟩
          have opnU : ∀ k ok, ops[k]? = some ok → (k = i ∨ listed.getD k false = true) → opn (fun q => if q = i then u else V q) ops.toList 0 a0 k ok = opn V ops.toList 0 a0 k ok := fun k ok hok hk =>
            opn_congr hB hok fun j hj => by
              have : j ≠ i := by
                rintro rfl
                rcases hk with rfl | hk
                · have := (hpl k ok hok).1 k hj; omega
                · have := hdown k ok hok hk j hj
                  rw [h0'] at this; cases this
              simp [this]
          have opxU : ∀ k ok, ops[k]? = some ok → (k = i ∨ listed.getD k false = true) → opx ops (fun q => if q = i then u else V q) ops.toList 0 a0 k ok = opx ops V ops.toList 0 a0 k ok := fun k ok hok hk =>
            opx_congr hB hok fun j hj => by
              have : j ≠ i := by
                rintro rfl
                rcases hk with rfl | hk
                · have := (hpl k ok hok).1 k hj; omega
                · have := hdown k ok hok hk j hj
                  rw [h0'] at this; cases this
              simp [this]
          refine ih (listed.setIfInBounds i true) _ w' (fun k => if k = i then u else V k) (by simpa using hsz) (fun k ok c' hl hok hk => ?_) ?_ hbW (fun k ok c' hl hok hk hnb => ?_) (fun j oj hj hl k hd => ?_) ?_ (fun k h1 h2 => ?_) hcl
          · rw [hgo] at hl
            by_cases hki : k = i
            · subst hki
              rw [hk] at g1; cases g1
              rw [hok] at ho; cases ho
              rw [opnU k _ hok (.inl rfl)]
              simpa using hSu
            · have hl : listed.getD k false = true := by simpa [hki] using hl
              rw [opnU k ok hok (.inr hl)]
              simpa [hki] using hV k ok c' hl hok hk
          · rw [ha, puts_put ops.toList 0 i a0 (by simpa using ho) (by simpa using h0') (fun k o' hk hne d hd => ?_)]
            · exact puts_congr ops.toList 0 a0 fun k _ _ => ⟨by simp only [Nat.zero_add]; exact (hgo k).symm, fun _ => by simp⟩
            · exact ((hpl k o' (by simpa using hk)).2 i o d ho hd).2 hne
          · by_cases hki : k = i
            · subst hki
              rw [hk] at g1; cases g1
              rw [hok] at ho; cases ho
              rw [opxU k _ hok (.inl rfl)]
              simpa using hKu
            · rw [hgo] at hl
              have hl : listed.getD k false = true := by simpa [hki] using hl
              rw [opxU k ok hok (.inr hl)]
              simp only [if_neg hki]
              by_cases hm0 : c'.mode = 0
              · exact c'.quiet hm0 _ _ _
              · by_cases hm2 : c.mode = 2
                · exfalso
                  rcases barB_spec hbar ho hok g1 hk hm2 hm0 hki with ⟨h, _⟩ | ⟨_, h⟩
                  · exact hnb i c h g1 (by rw [hgo]; simp) hm2
                  · have := reachB_down (D := fun k => listed.getD k false) hdown 4 k i h hl
                    rw [h0'] at this; cases this
                · exact c'.keeps _ _ _ _ (hK k ok c' hl hok hk fun b cb h1 h2 h3 => hnb b cb h1 h2 (by rw [hgo, h3]; simp)) (hbl hm2)
          · rw [hgo] at hl ⊢
            by_cases hji : j = i
            · subst hji
              rw [hj] at ho; cases ho
              rw [hdeps k hd]; simp
            · have : listed.getD j false = true := by simpa [hji] using hl
              rw [hdown j oj hj this k hd]; simp
          · have := cnt_set (f := fun k => listed.getD k false) (g := fun k => (listed.setIfInBounds i true).getD k false) (i := i) h0' (by simp only [hgo]; simp) (fun j hj => by simp only [hgo]; simp [hj]) hlt
            omega
          · rw [hgo, hlast k h1 h2]
            simp; omega
        unfold wpOp
        simp only [ho]
        unfold stepC at g2
        rw [hoa, hoax] at g2
        rcases g2 with ⟨k1, k2, k3⟩ | ⟨k1, k2, k3⟩
        · rw [← hwn, k1, if_pos rfl]
          by_cases hm0 : c.mode = 0
          · refine .inl (uponC_op (T := fun u w' => (∃ n, w' = w.drewN n) ∧ c.S (opn V ops.toList 0 a0 i o) u) (fun u w' hT => ?_) ?_)
            · obtain ⟨⟨n, rfl⟩, hS⟩ := hT
              exact next u _ ⟨fun _ => below_drewN (Below.refl _ _) _, below_drewN hb _, hS, c.quiet hm0 _ _ _⟩
            · rw [← he]; exact k2 hm0 w
          · refine .inl (uponC_op next ?_)
            rw [← he]
            exact k3 hm0 w hb (hks hm0)
        · rw [← hwn, k1, if_neg (by simp)]
          exact next undef w ⟨fun _ => Below.refl _ _, hb, k3, c.quiet k2 _ _ _⟩
      · simp only [Nat.zero_add] at g3 g4
        simp only [tailB, Bool.and_eq_true] at g3
        obtain ⟨g3, g5⟩ := g3
        have chain : ∀ k, cs.length < k → k < ops.size → ∀ ok, ops[k]? = some ok → depB ok (k - 1) = true := fun k h1 h2 ok hok => by
          have := List.all_eq_true.1 g5 k (List.mem_range.2 h2)
          simp only [Bool.or_eq_true, decide_eq_true_eq] at this
          rcases this with h | h
          · omega
          · rw [hok] at h; simpa using h
        have hic : i = cs.length := by
          rcases Nat.lt_or_ge cs.length i with h | h
          · have h1 := hdeps _ (chain i h hlt o ho)
            have h2 := hlast (i - 1) (by omega) (by omega)
            rw [h2] at h1; cases h1
          · omega
        have hall : ∀ d j, j + d + 1 = i → listed.getD j false = true := by
          intro d
          induction d using Nat.strongRecOn with
          | ind d ihd =>
            intro j hj
            have := List.all_eq_true.1 g3 j (List.mem_range.2 (by omega))
            simp only [List.any_eq_true, List.mem_range, Bool.and_eq_true, decide_eq_true_eq] at this
            obtain ⟨k, hk, hjk, hd⟩ := this
            have hk' : k < ops.size := by omega
            rw [Array.getElem?_eq_getElem hk'] at hd
            simp only [Option.map_some, Option.getD_some] at hd
            by_cases hki : k = i
            · subst hki
              rw [Array.getElem?_eq_getElem hk'] at ho; cases ho
              exact hdeps j hd
            · exact hdown k ops[k] (Array.getElem?_eq_getElem hk') (ihd (i - k - 1) (by omega) k (by omega)) j hd
        have hall' : ∀ k, k < cs.length → listed.getD k false = true := fun k hk => hall (i - k - 1) k (by omega)
        have hpa : puts V1 (fun k => decide (k < cs.length)) ops.toList 0 a0 = a := by
          rw [ha]
          refine puts_congr ops.toList 0 a0 fun k _ hk => ?_
          by_cases hki : k < cs.length
          · exact ⟨by rw [hall' k hki]; simpa using hki, fun _ => hV1 k (hall' k hki)⟩
          · exact ⟨by rw [hlast k (by omega) (by simpa using hk)]; simpa using hki, fun h => absurd (by simpa using h) hki⟩
        have := g4 w hb (fun k ok ck hlt' hok hck _ hnb => by
          have hok' : ops[k]? = some ok := by simpa using hok
          have hDk := hall' k (by omega)
          have := hK k ok ck hDk hok' hck fun b cb h1 h2 h3 => hnb b cb h1 (List.getElem?_eq_some_iff.1 h2).1 h2
          rw [opx_congr (V' := V) hB hok' fun j hj => hV1 j (hdown k ok hok' hDk j hj)]
          simpa [hV1 k hDk] using this) (fun _ => trivial)
        rw [hpa] at this
        exact ((wpAny_tail hB chain (fuel + 1) cs.length listed a w hsz (Nat.le_refl _) hcl hall' hlast hcnt this).2 i hi)
end

theorem wpC_len : ∀ (l : List Oper) (cs : List Clm) (i : Nat) (ks : List (Nat × (World → Prop))) (a : Act), wpC P ops Q W l cs i ks a → cs.length ≤ l.length
  | [], [], _, _, _, _ => Nat.le_refl _
  | [], _ :: _, _, _, _, h => (by unfold wpC at h; exact h.elim)
  | _ :: _, [], _, _, _, _ => by simp
  | o :: l, c :: cs, i, ks, a, h => by
    simp only [wpC] at h
    obtain ⟨v, hv⟩ := c.ex (o.op.operands.toList.map a.eval)
    have := wpC_len l cs _ _ _ (h.2 v hv)
    simp only [List.length_cons]
    omega
/-- ONE WALK OF THE ORDER OF THE TEXT SERVES EVERY ORDER. -/
theorem wp_region_plan {id : Nat} {a : Act} {l : List Oper} {cs : List Clm} (hw : wpC P l.toArray Q W l cs 0 [] a) (hpr1 : P.follows .mixedOrders = true) (hpr2 : planB l.toArray = true) (hpr3 : barB l.toArray (cs.map (·.mode)) = true) : (Code.region id l.toArray true).wp P Q a W := by
  have hlen := wpC_len l cs _ _ _ hw
  have hsz : l.toArray.size = l.length := by simp
  refine wp_region_any hpr1 ?_
  refine wpAny_plan (cs := cs) (a0 := a) (W := W) hpr2 hpr3 (by omega) (by simpa using hw) _ _ _ _ (fun _ => undef) (by simp) ?_ ?_ (Below.refl _ _).drew ?_ ?_ ?_ ?_ (by omega)
  · intro k o c hl
    exfalso
    simp only [Array.getD_eq_getD_getElem?] at hl
    by_cases hk : k < l.length <;> simp [hk] at hl
  · refine (puts_none _ _ _ fun k _ => ?_).symm
    simp only [Array.getD_eq_getD_getElem?]
    by_cases hk : k < l.length <;> simp [hk]
  · intro k o c hl
    exfalso
    simp only [Array.getD_eq_getD_getElem?] at hl
    by_cases hk : k < l.length <;> simp [hk] at hl
  · intro j o _ hl
    exfalso
    simp only [Array.getD_eq_getD_getElem?] at hl
    by_cases hk : j < l.length <;> simp [hk] at hl
  · have : ∀ (f : Nat → Bool) (n : Nat), cnt f n ≤ n := by
      intro f n
      induction n with
      | zero => exact Nat.le_refl _
      | succ n ih => simp only [cnt]; split <;> omega
    exact this _ _
  · intro k _ _
    simp only [Array.getD_eq_getD_getElem?]
    by_cases hk : k < l.length <;> simp [hk]
variable {l : List Oper} {cs : List Clm} {i : Nat} {ks : List (Nat × (World → Prop))} {a : Act} {o : Oper}
theorem wpC_norm {a' : Act} (ha : a = a') (h : wpC P ops Q W l cs i ks a') : wpC P ops Q W l cs i ks a := ha ▸ h
theorem wpC_nil (h : ∀ w, Below W.heap.size W w → allK ks w → Q .normal a w) : wpC P ops Q W [] [] i ks a := h
/-- What is left stands behind all the rest: it is walked as a list. -/
theorem wpC_tail (hs : tailB ops i = true) (hd : ops.toList.drop i = o :: l) (h : ∀ w, Below W.heap.size W w → allK ks w → wpList P ops Q (o :: l) a w) : wpC P ops Q W (o :: l) [] i ks a :=
  ⟨hs, fun w hb hk => by
    have := h w hb hk
    have hl : ∀ j, (o :: l)[j]? = ops[i + j]? := fun j => by rw [← hd, List.getElem?_drop, Array.getElem?_toList]
    rw [← wpOps_eq_wpList (o :: l) i hl] at this
    have e : ops.size - i = (o :: l).length := by
      have h1 := hl (o :: l).length
      rw [List.getElem?_eq_none (Nat.le_refl _)] at h1
      have h2 := hl l.length
      simp only [List.length_cons] at h1 ⊢
      have h3 : ops.size ≤ i + (l.length + 1) := Array.getElem?_eq_none_iff.1 h1.symm
      have h4 : i + l.length < ops.size := by
        rcases Nat.lt_or_ge (i + l.length) ops.size with h | h
        · exact h
        · rw [Array.getElem?_eq_none h] at h2
          have := List.getElem?_eq_none_iff.1 h2
          simp only [List.length_cons] at this
          omega
      omega
    rw [e]; exact this⟩
/-- An operation that only works on its operands. -/
def PureAt (P : Program) (o : Oper) (x : List Value) (u : Value) : Prop := (∃ a : Act, o.op.operands.toList.map a.eval = x) ∧ ∀ (a : Act) w, o.op.operands.toList.map a.eval = x → (execOp a.eval o).run P w = .ok (.value u) w
theorem PureAt.uniq {x : List Value} {u v : Value} (h1 : PureAt P o x u) (h2 : PureAt P o x v) : u = v := by
  obtain ⟨⟨a, ha⟩, h1⟩ := h1
  have e1 := h1 a default ha
  rw [h2.2 a default ha] at e1
  simp at e1; exact e1.symm
def Clm.det (P : Program) (o : Oper) : Clm := ⟨0, fun x v => ∀ u, PureAt P o x u → v = u, fun _ _ _ => True,
  fun x => by
    by_cases h : ∃ u, PureAt P o x u
    · obtain ⟨u, hu⟩ := h
      exact ⟨u, fun u' hu' => hu.uniq hu'⟩
    · exact ⟨undef, fun u hu => absurd ⟨u, hu⟩ h⟩,
  fun _ _ _ _ _ _ => trivial, fun _ _ _ _ => trivial⟩
theorem wpC_det (v : Value) (hw : Region.wanted o (yielded ops a.tmps) = true) (hs : ∀ cs b, o.op ≠ .select cs b) (h1 : ∀ w, (execOp a.eval o).run P w = .ok (.value v) w)
    (h : wpC P ops Q W l cs (i + 1) ks (a.put o.dst v)) : wpC P ops Q W (o :: l) (Clm.det P o :: cs) i ks a := by
  have hp : PureAt P o (o.op.operands.toList.map a.eval) v := ⟨⟨a, rfl⟩, fun a' w he => by
    rw [execOp_congr (ρ := a'.eval) (ρ' := a.eval) o hs fun x hx => ?_]
    · exact h1 w
    · have := List.map_inj_left.1 he x (by simpa using hx)
      exact this⟩
  simp only [wpC]
  refine ⟨.inl ⟨hw, fun _ w => ?_, fun h => absurd rfl h⟩, fun u hu => ?_⟩
  · rw [h1 w]; exact ⟨⟨0, rfl⟩, fun u hu => hp.uniq hu⟩
  · rw [hu v hp]; exact h
/-- An operation that no one asks for. -/
def Clm.no : Clm := ⟨0, fun _ v => v = undef, fun _ _ _ => True, fun _ => ⟨_, rfl⟩, fun _ _ _ _ _ _ => trivial, fun _ _ _ _ => trivial⟩
theorem wpC_skip (hw : Region.wanted o (yielded ops a.tmps) = false) (h : wpC P ops Q W l cs (i + 1) ks (a.put o.dst undef)) : wpC P ops Q W (o :: l) (Clm.no :: cs) i ks a := by
  simp only [wpC]
  refine ⟨.inr ⟨hw, rfl, rfl⟩, fun u hu => ?_⟩
  have hu : u = undef := hu
  subst hu; exact h
/-- One value, whatever the operands. -/
def Clm.one (v : Value) : Clm := ⟨1, fun _ u => u = v, fun _ _ _ => True, fun _ => ⟨v, rfl⟩, fun _ _ _ _ _ _ => trivial, fun h => nomatch h⟩
theorem wpC_val (v : Value) (hw : Region.wanted o (yielded ops a.tmps) = true) (h1 : ∀ w, Below W.heap.size W w → depK o ks w → (execOp a.eval o).run P w = .ok (.value v) w)
    (h : wpC P ops Q W l cs (i + 1) ((i, fun _ => True) :: ks) (a.put o.dst v)) : wpC P ops Q W (o :: l) (Clm.one v :: cs) i ks a := by
  simp only [wpC]
  refine ⟨.inl ⟨hw, fun h => absurd h (by decide : ¬ (1 : Nat) = 0), fun _ w hb hk => ?_⟩, fun u hu => ?_⟩
  · rw [h1 w hb hk]; exact ⟨fun _ => Below.refl _ _, hb, rfl, trivial⟩
  · have hu : u = v := hu
    subst hu; exact h
/-- A call, or an operation that makes memory: the claim is told. -/
theorem wpC_call (c : Clm) (hc1 : c.mode = 1) (hw : Region.wanted o (yielded ops a.tmps) = true) {f : FuncId} {args : Array Value} (h1 : ∀ w, (execOp a.eval o).run P w = .ok (.enter f args) w)
    (hc : ∀ w, Below W.heap.size W w → depK o ks w → Calls P f args w (fun e w' => ∃ v, e = .returned v ∧ Below w.heap.size w w' ∧ c.S (o.op.operands.toList.map a.eval) v ∧ c.K (oargs ops o a) v w'))
    (h : ∀ v, c.S (o.op.operands.toList.map a.eval) v → wpC P ops Q W l cs (i + 1) ((i, c.K (oargs ops o a) v) :: ks) (a.put o.dst v)) : wpC P ops Q W (o :: l) (c :: cs) i ks a := by
  simp only [wpC]
  refine ⟨.inl ⟨hw, fun h => (by rw [hc1] at h; cases h), fun _ w hb hk => ?_⟩, fun v hv => ?_⟩
  · rw [h1 w]
    refine Calls.mono (hc w hb hk) ?_
    rintro e w' ⟨v, rfl, hbl, hS, hK⟩
    exact ⟨v, rfl, fun _ => hbl, below_then hb hbl, hS, hK⟩
  · have : nextK c i (c.K (oargs ops o a) v) ks = (i, c.K (oargs ops o a) v) :: ks := by unfold nextK; rw [hc1]; rfl
    rw [this]; exact h v hv
theorem wpC_callB (v : Value) (hw : Region.wanted o (yielded ops a.tmps) = true) {f : FuncId} {args : Array Value} (h1 : ∀ w, (execOp a.eval o).run P w = .ok (.enter f args) w)
    (hc : ∀ w, Below W.heap.size W w → depK o ks w → Calls P f args w (BV w v))
    (h : wpC P ops Q W l cs (i + 1) ((i, fun _ => True) :: ks) (a.put o.dst v)) : wpC P ops Q W (o :: l) (Clm.one v :: cs) i ks a := by
  refine wpC_call (Clm.one v) rfl hw h1 (fun w hb hk => (hc w hb hk).mono ?_) ?_
  · rintro e w' ⟨rfl, hbl⟩; exact ⟨v, rfl, hbl, rfl, trivial⟩
  · intro u hu
    have hu : u = v := hu
    subst hu; exact h
theorem wpC_make (c : Clm) (hc1 : c.mode = 1) (hw : Region.wanted o (yielded ops a.tmps) = true) (h1 : ∀ w, Below W.heap.size W w → depK o ks w → ∃ u w', (execOp a.eval o).run P w = .ok (.value u) w' ∧ Below w.heap.size w w' ∧ c.S (o.op.operands.toList.map a.eval) u ∧ c.K (oargs ops o a) u w')
    (h : ∀ v, c.S (o.op.operands.toList.map a.eval) v → wpC P ops Q W l cs (i + 1) ((i, c.K (oargs ops o a) v) :: ks) (a.put o.dst v)) : wpC P ops Q W (o :: l) (c :: cs) i ks a := by
  simp only [wpC]
  refine ⟨.inl ⟨hw, fun h => (by rw [hc1] at h; cases h), fun _ w hb hk => ?_⟩, fun v hv => ?_⟩
  · obtain ⟨u, w', e, hbl, r⟩ := h1 w hb hk
    rw [e]; exact ⟨fun _ => hbl, below_then hb hbl, r⟩
  · have : nextK c i (c.K (oargs ops o a) v) ks = (i, c.K (oargs ops o a) v) :: ks := by unfold nextK; rw [hc1]; rfl
    rw [this]; exact h v hv
/-- These cells, and they may be written. -/
def owned (w : World) (b : Nat) (xs : List Value) : Prop := ∀ k x, xs[k]? = some x → w.cell? ⟨b, k, none⟩ = some x ∧ w.frozen? ⟨b, k, none⟩ = false
theorem owned.later {w w' : World} {b : Nat} {xs : List Value} (h : owned w b xs) (hb : Below w.heap.size w w') : owned w' b xs :=
  fun k x hx => ⟨cell_later hb (h k x hx).1, free_later hb (h k x hx).1 (h k x hx).2⟩
theorem owned_alloc (w : World) (xs : List Value) (t : TypeId) : owned (w.alloc (.cells xs.toArray t)) w.heap.size xs := by
  intro k x hx
  exact ⟨by rw [World.cell?_alloc_at _ _ _ _ rfl]; simpa using hx, World.frozen?_alloc_at _ _ _ _ rfl⟩
/-- A new variable: its address. -/
def varK (o : Nat) (xs : List Value) (u : Value) (w : World) : Prop := match u with | .pointer (some ⟨b, 0, none⟩) => o ≤ b ∧ owned w b xs | _ => True
def Clm.var (o : Nat) (xs : List Value) : Clm := ⟨1, fun _ u => ∃ b, u = .pointer (some ⟨b, 0, none⟩), fun _ u w => varK o xs u w, fun _ => ⟨_, 0, rfl⟩,
  fun _ u w w' h hb => by
    unfold varK at h ⊢
    split
    · exact ⟨h.1, h.2.later hb⟩
    · trivial, fun h => nomatch h⟩
theorem wpC_var (xs : List Value) (t : TypeId) (hw : Region.wanted o (yielded ops a.tmps) = true) (h1 : ∀ w, (execOp a.eval o).run P w = .ok (.value (.pointer (some ⟨w.heap.size, 0, none⟩))) (w.alloc (.cells xs.toArray t)))
    (h : ∀ b, wpC P ops Q W l cs (i + 1) ((i, fun w => W.heap.size ≤ b ∧ owned w b xs) :: ks) (a.put o.dst (.pointer (some ⟨b, 0, none⟩)))) : wpC P ops Q W (o :: l) (Clm.var W.heap.size xs :: cs) i ks a := by
  refine wpC_make (Clm.var W.heap.size xs) rfl hw (fun w hb hk => ⟨_, _, h1 w, (Below.refl _ _).alloc (Nat.le_refl _) _, ⟨_, rfl⟩, hb.size, owned_alloc w xs t⟩) ?_
  rintro v ⟨b, rfl⟩
  exact h b
/-- A slice of one element that is written out. -/
def lit1K (o : Nat) (x : List Value) (u : Value) (w : World) : Prop := match u with | .slice (some ⟨b, 0, none⟩) _ _ => o ≤ b ∧ owned w b x | _ => True
def Clm.lit1 (o : Nat) : Clm := ⟨1, fun _ u => ∃ b, u = .slice (some ⟨b, 0, none⟩) 1 1, fun x u w => lit1K o (x.take 1) u w, fun _ => ⟨_, 0, rfl⟩,
  fun _ u w w' h hb => by
    unfold lit1K at h ⊢
    split
    · exact ⟨h.1, h.2.later hb⟩
    · trivial, fun h => nomatch h⟩
theorem wpC_lit1 {x : Value} {t : TypeId} (hx : o.op.operands.toList.map a.eval = [x]) (hw : Region.wanted o (yielded ops a.tmps) = true) (h1 : ∀ w, (execOp a.eval o).run P w = .ok (.value (.slice (some ⟨w.heap.size, 0, none⟩) 1 1)) (w.alloc (.cells #[x] t)))
    (h : ∀ b, wpC P ops Q W l cs (i + 1) ((i, fun w => W.heap.size ≤ b ∧ owned w b [x]) :: ks) (a.put o.dst (.slice (some ⟨b, 0, none⟩) 1 1))) : wpC P ops Q W (o :: l) (Clm.lit1 W.heap.size :: cs) i ks a := by
  have ht : (oargs ops o a).take 1 = [x] := by unfold oargs; rw [hx]; rfl
  refine wpC_make (Clm.lit1 W.heap.size) rfl hw (fun w hb hk => ⟨_, _, h1 w, (Below.refl _ _).alloc (Nat.le_refl _) _, ⟨_, rfl⟩, by show lit1K W.heap.size ((oargs ops o a).take 1) (.slice (some ⟨w.heap.size, 0, none⟩) 1 1) _; rw [ht]; exact ⟨hb.size, owned_alloc w [x] t⟩⟩) ?_
  rintro v ⟨b, rfl⟩
  show wpC P ops Q W l cs (i + 1) ((i, fun w => lit1K W.heap.size ((oargs ops o a).take 1) (.slice (some ⟨b, 0, none⟩) 1 1) w) :: ks) _
  rw [ht]
  exact h b
/-- A store: what is told of the world behind it. -/
theorem wpC_store (c : Clm) (hc2 : c.mode = 2) (hw : Region.wanted o (yielded ops a.tmps) = true) (h1 : ∀ w, Below W.heap.size W w → depK o ks w → ∃ n u w', (execOp a.eval o).run P w = .ok n w' ∧ (n = .skip ∧ u = undef ∨ n = .value u) ∧ Below W.heap.size W w' ∧ c.S (o.op.operands.toList.map a.eval) u ∧ c.K (oargs ops o a) u w')
    (h : ∀ v, c.S (o.op.operands.toList.map a.eval) v → wpC P ops Q W l cs (i + 1) [(i, c.K (oargs ops o a) v)] (a.put o.dst v)) : wpC P ops Q W (o :: l) (c :: cs) i ks a := by
  simp only [wpC]
  refine ⟨.inl ⟨hw, fun h => (by rw [hc2] at h; cases h), fun _ w hb hk => ?_⟩, fun v hv => ?_⟩
  · obtain ⟨n, u, w', e, hn, r⟩ := h1 w hb hk
    rw [e]
    rcases hn with ⟨rfl, rfl⟩ | rfl
    · exact ⟨fun h => absurd hc2 h, r⟩
    · exact ⟨fun h => absurd hc2 h, r⟩
  · have : nextK c i (c.K (oargs ops o a) v) ks = [(i, c.K (oargs ops o a) v)] := by unfold nextK; rw [hc2]; rfl
    rw [this]; exact h v hv
/-- A call that writes, at which what is told of the world behind it follows. -/
theorem wpC_bar (c : Clm) (hc2 : c.mode = 2) (hw : Region.wanted o (yielded ops a.tmps) = true) (h1 : ∀ w, Below W.heap.size W w → depK o ks w → ∃ u w', (execOp a.eval o).run P w = .ok (.value u) w' ∧ Below W.heap.size W w' ∧ c.S (o.op.operands.toList.map a.eval) u ∧ c.K (oargs ops o a) u w')
    (h : ∀ v, c.S (o.op.operands.toList.map a.eval) v → wpC P ops Q W l cs (i + 1) [(i, c.K (oargs ops o a) v)] (a.put o.dst v)) : wpC P ops Q W (o :: l) (c :: cs) i ks a :=
  wpC_store c hc2 hw (fun w hb hk => by
    obtain ⟨u, w', e, r⟩ := h1 w hb hk
    exact ⟨_, u, w', e, .inr rfl, r⟩) h
/-- A store into a variable of the region's own: what is told of the world behind it. -/
def putK (o : Nat) (x : List Value) (w : World) : Prop := match x with | [.pointer (some ⟨b, 0, none⟩), .agg vs] => o ≤ b ∧ owned w b vs.toList | _ => True
/-- What later memory keeps. -/
def Keeps (M : List Value → World → Prop) : Prop := ∀ x w w', M x w → Below w.heap.size w w' → M x w'
def Clm.put (o : Nat) (M : List Value → World → Prop) (hM : Keeps M) : Clm := ⟨2, fun _ u => u = undef, fun x _ w => putK o (x.take 2) w ∧ M (x.take 2) w, fun _ => ⟨undef, rfl⟩,
  fun x u w w' h hb => by
    refine ⟨?_, hM _ _ _ h.2 hb⟩
    have h := h.1
    revert h
    generalize x.take 2 = y
    intro h
    unfold putK at h ⊢
    split
    · exact ⟨h.1, h.2.later hb⟩
    · trivial, fun h => nomatch h⟩
theorem wpC_put {ty : TypeId} {X Y : Operand} {b : Nat} {vs : Array Value} (olds : List Value) (M : List Value → World → Prop) (hM : Keeps M) (ho : o.op = .store ty X Y) (hx : a.eval X = .pointer (some ⟨b, 0, none⟩)) (hy : a.eval Y = .agg vs) (hn : olds.length = vs.size)
    (hi : (P.info? ty).map (·.size) = some vs.size) (h2 : vs.toList.all (·.oneCell') = true) (hw : Region.wanted o (yielded ops a.tmps) = true) (hk : ∀ w, depK o ks w → W.heap.size ≤ b ∧ owned w b olds)
    (hm : ∀ w, Below W.heap.size W w → depK o ks w → M [.pointer (some ⟨b, 0, none⟩), .agg vs] (w.setCells b 0 vs.toList))
    (h : wpC P ops Q W l cs (i + 1) [(i, fun w => (W.heap.size ≤ b ∧ owned w b vs.toList) ∧ M [.pointer (some ⟨b, 0, none⟩), .agg vs] w)] (a.put o.dst undef)) : wpC P ops Q W (o :: l) (Clm.put W.heap.size M hM :: cs) i ks a := by
  have h1 : vs.all (·.oneCell') = true := Array.all_eq_true_iff_forall_mem.2 fun v hv => List.all_eq_true.1 h2 v (by simpa using hv)
  have hl : o.op.operands.toList.map a.eval = [.pointer (some ⟨b, 0, none⟩), .agg vs] := by rw [ho]; simp [Op.operands, hx, hy]
  have hl2 : (oargs ops o a).take 2 = [.pointer (some ⟨b, 0, none⟩), .agg vs] := by unfold oargs; rw [hl]; rfl
  refine wpC_store (Clm.put W.heap.size M hM) rfl hw (fun w hb hkw => ?_) (fun v hv => ?_)
  · obtain ⟨hle, hown⟩ := hk w hkw
    have ht : w.there b 0 vs.size := fun j hj => by
      have hj' : j < olds.length := by omega
      have := hown j olds[j] (List.getElem?_eq_getElem hj')
      simp only [Nat.zero_add]
      exact ⟨by rw [this.1]; rfl, this.2⟩
    refine ⟨.skip, undef, w.setCells b 0 vs.toList, ?_, .inl ⟨rfl, rfl⟩, ?_, rfl, ?_⟩
    · unfold execOp
      simp only [ho, hx, hy, Instr.storeAt, Instr.sureAddr, Sem.run_bind, Sem.run_pure, Result.andThen_ok, run_storeVar_mid w b 0 ty vs ht hi h1]
    · have key : ∀ (vs : List Value) (o : Nat) (w' : World), Below W.heap.size W w' → Below W.heap.size W (w'.setCells b o vs) := by
        intro vs
        induction vs with
        | nil => intro o w' h; exact h
        | cons v r ih => intro o w' h; exact ih _ _ (Below.setCell h (by simpa using hle) _)
      exact key _ _ _ hb
    · show putK W.heap.size ((oargs ops o a).take 2) _ ∧ M ((oargs ops o a).take 2) _
      rw [hl2]
      refine ⟨⟨hle, fun k x hx' => ⟨?_, ?_⟩⟩, hm w hb hkw⟩
      · have := World.rangeAt_setCells_same w b 0 vs.toList (by simpa using ht) k x hx'
        simpa using this
      · rw [World.frozen?_setCells]
        have hk' : k < vs.size := by simpa using (List.getElem?_eq_some_iff.1 hx').1
        have := (ht k hk').2
        simpa using this
  · have hv : v = undef := hv
    subst hv
    show wpC P ops Q W l cs (i + 1) [(i, fun w => putK W.heap.size ((oargs ops o a).take 2) w ∧ M ((oargs ops o a).take 2) w)] _
    rw [hl2]; exact h
theorem keeps_true : Keeps fun _ _ => True := fun _ _ _ _ _ => trivial
/-- '+' ¦ '-' ¦ '*' ¦ '/' of floats. -/
def Clm.fop (op : BinOp) : Clm := ⟨0, fun x v => ∀ k p q, x = [.float k p, .float k q] → ∃ r, v = .float k r ∧ cn k r = Go.Proofs.Ytldancjofgobnaa.fop op k (cn k p) (cn k q), fun _ _ _ => True,
  fun x => by
    by_cases h : ∃ k p q, x = [.float k p, .float k q]
    · obtain ⟨k, p, q, rfl⟩ := h
      refine ⟨.float k (Go.Proofs.Ytldancjofgobnaa.fop op k (cn k p) (cn k q)), fun k' p' q' e => ?_⟩
      simp only [List.cons.injEq, Value.float.injEq, and_true] at e
      obtain ⟨⟨rfl, rfl⟩, _, rfl⟩ := e
      exact ⟨_, rfl, cn_fop _ _ _ _⟩
    · exact ⟨undef, fun k p q e => absurd ⟨k, p, q, e⟩ h⟩,
  fun _ _ _ _ _ _ => trivial, fun _ _ _ _ => trivial⟩
theorem wpC_fop {op : BinOp} {t t' : TypeId} {X Y : Operand} (ho : o.op = .binOp op t X Y t') (hop : arithOp op = true) {k : FloatKind} {x y : Nat} (hx : a.eval X = .float k x) (hy : a.eval Y = .float k y) (hw : Region.wanted o (yielded ops a.tmps) = true)
    (h : ∀ r, (∀ cx cy, cn k x = cx → cn k y = cy → cn k r = Go.Proofs.Ytldancjofgobnaa.fop op k cx cy) → wpC P ops Q W l cs (i + 1) ks (a.put o.dst (.float k r))) : wpC P ops Q W (o :: l) (Clm.fop op :: cs) i ks a := by
  have hl : o.op.operands.toList.map a.eval = [.float k x, .float k y] := by rw [ho]; simp [Op.operands, hx, hy]
  simp only [wpC]
  rw [hl]
  refine ⟨.inl ⟨hw, fun _ w => ?_, fun h => absurd rfl h⟩, fun u hu => ?_⟩
  · obtain ⟨r, n, h1, h2⟩ := run_exec_fop (P := P) op hop t t' X Y ho k x y hx hy w
    rw [h1, hl]
    refine ⟨⟨n, rfl⟩, fun k' p' q' e => ?_⟩
    simp only [List.cons.injEq, Value.float.injEq, and_true] at e
    obtain ⟨⟨rfl, rfl⟩, _, rfl⟩ := e
    exact ⟨r, rfl, h2⟩
  · obtain ⟨r, rfl, hr⟩ := hu k x y rfl
    exact h r (by rintro cx cy rfl rfl; exact hr)
end
attribute [irreducible] wpC
end Go.Proofs.Ytldancjofgobnaa
