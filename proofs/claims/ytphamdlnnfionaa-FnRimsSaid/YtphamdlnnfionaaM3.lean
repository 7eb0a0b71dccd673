/-
  A statement whose order Go leaves open and in which a call, an append or a store turns memory that was there before: what holds of the world is told from one such operation to the next; one walk in the order of the text serves every order. No condition; nothing of the program is named here.
  More steps of plans with operations that turn memory: a slice of one number, an append to an own slice, a store behind which what it waited for is told anew. No condition but what each law says.
  What plans with memory that turns need of variables, stores and slices: general laws. No condition but what each law says.
  A plate in a variable of the call's own, with four lists that are own and lie apart: how it grows. No condition but what each law says.
  A slice of numbers that is not empty, seen. No condition.
  A list of numbers appended whole to an own slice; slices.Clone, and the reference's copy. No condition but what each contract says.
  slices.Repeat of one number. No condition but what each contract says.
  A plain plate: the reference's way. No condition but what each contract says.
  Bytes that choose numbers: the source of what the statements draw. No condition but what each contract says.
-/
import Derived.Test.YtphamdlnnfionaaM2
import Derived.Laws.CopyOwn
import Derived.Laws.Bits64b
import Derived.Deep.Upon
set_option linter.unusedSimpArgs false
set_option linter.unusedVariables false
set_option linter.unusedSectionVars false
namespace Go.Proofs.Ytphamdlnnfionaa
open Go Go.RowKit
/-- A claim; of an operation that turns memory (mode 3) also what holds of every world from it on. Mode 4: it asks only what always holds, and nothing is told of it but its value. -/
structure GC where
  c : Clm
  I : World → Prop
  kept : ∀ w w', I w → Below w.heap.size w w' → I w'
def GC.of (c : Clm) : GC := ⟨c, fun _ => True, fun _ _ _ _ => trivial⟩
def invG (I : World → Prop) (g : GC) : World → Prop := match g.c.mode with | 3 => g.I | _ => I
def nextG (c : Clm) (i : Nat) (k : World → Prop) (ks : List (Nat × (World → Prop))) : List (Nat × (World → Prop)) :=
  match c.mode with | 0 => ks | 4 => ks | 3 => [(i, k)] | _ => (i, k) :: ks
section
variable {P : Program} {ops : Array Oper} {Q : Exit → Act → World → Prop} {F : World → Prop}
def stepG (P : Program) (ops : Array Oper) (F I : World → Prop) (o : Oper) (g : GC) (ks : List (Nat × (World → Prop))) (a : Act) : Prop :=
  (Region.wanted o (yielded ops a.tmps) = true ∧ (g.c.mode = 0 ∨ g.c.mode = 1 ∨ g.c.mode = 3 ∨ g.c.mode = 4) ∧
    (g.c.mode = 0 → ∀ w, uponC P (fun u w' => (∃ n, w' = w.drewN n) ∧ g.c.S (o.op.operands.toList.map a.eval) u) ((execOp a.eval o).run P w)) ∧
    (g.c.mode = 4 → (∀ x v w, g.c.K x v w) ∧ ∀ w, F w → uponC P (fun u w' => Below w.heap.size w w' ∧ g.c.S (o.op.operands.toList.map a.eval) u) ((execOp a.eval o).run P w)) ∧
    (g.c.mode = 1 → ∀ w, I w → depK o ks w → uponC P (fun u w' => Below w.heap.size w w' ∧ g.c.S (o.op.operands.toList.map a.eval) u ∧ g.c.K (oargs ops o a) u w') ((execOp a.eval o).run P w)) ∧
    (g.c.mode = 3 → ∀ w, I w → depK o ks w → uponC P (fun u w' => g.I w' ∧ g.c.S (o.op.operands.toList.map a.eval) u ∧ g.c.K (oargs ops o a) u w') ((execOp a.eval o).run P w))) ∨
  (Region.wanted o (yielded ops a.tmps) = false ∧ g.c.mode = 0 ∧ g.c.S (o.op.operands.toList.map a.eval) undef)
/-- The walk in the order of the text. -/
def wpG (P : Program) (ops : Array Oper) (Q : Exit → Act → World → Prop) (F : World → Prop) : (World → Prop) → List Oper → List GC → Nat → List (Nat × (World → Prop)) → Act → Prop
  | I, [], [], _, ks, a => ∀ w, I w → allK ks w → Q .normal a w
  | I, o :: l, g :: cs, i, ks, a => stepG P ops F I o g ks a ∧ ∀ v, g.c.S (o.op.operands.toList.map a.eval) v → wpG P ops Q F (invG I g) l cs (i + 1) (nextG g.c i (g.c.K (oargs ops o a) v) ks) (a.put o.dst v)
  | _, _, _, _, _, _ => False
/-- What holds of the world ahead of operation number j. -/
def Iat (I : World → Prop) : List GC → Nat → World → Prop
  | _, 0 => I
  | [], _ + 1 => I
  | g :: cs, j + 1 => Iat (invG I g) cs j
theorem Iat_zero (I : World → Prop) (cs : List GC) : Iat I cs 0 = I := by cases cs <;> rfl
theorem Iat_succ : ∀ (I : World → Prop) (cs : List GC) (j : Nat) (g : GC), cs[j]? = some g → Iat I cs (j + 1) = invG (Iat I cs j) g
  | I, [], j, g, h => by simp at h
  | I, g' :: cs, 0, g, h => by
    simp only [List.getElem?_cons_zero, Option.some.injEq] at h
    subst h
    show Iat (invG I g') cs 0 = invG (Iat I (g' :: cs) 0) g'
    rw [Iat_zero, Iat_zero]
  | I, g' :: cs, j + 1, g, h => by
    show Iat (invG I g') cs (j + 1) = invG (Iat (invG I g') cs j) g
    exact Iat_succ _ cs j g (by simpa using h)
theorem invG_ne {I : World → Prop} {g : GC} (h : g.c.mode ≠ 3) : invG I g = I := by
  unfold invG
  split
  · exact absurd (by assumption) h
  · rfl
theorem invG_eq {I : World → Prop} {g : GC} (h : g.c.mode = 3) : invG I g = g.I := by
  unfold invG
  split
  · rfl
  · exact absurd h (by assumption)
theorem Iat_over (I : World → Prop) (cs : List GC) : ∀ (d p : Nat), (∀ k g, p ≤ k → k < p + d → cs[k]? = some g → g.c.mode ≠ 3) → p + d ≤ cs.length → Iat I cs (p + d) = Iat I cs p
  | 0, _, _, _ => rfl
  | d + 1, p, h, hl => by
    have hg : cs[p + d]? = some cs[p + d] := List.getElem?_eq_getElem (by omega)
    rw [show p + (d + 1) = (p + d) + 1 by omega, Iat_succ _ _ _ _ hg, invG_ne (h (p + d) _ (by omega) (by omega) hg)]
    exact Iat_over I cs d p (fun k g h1 h2 => h k g h1 (by omega)) (by omega)
theorem Iat_kept {I : World → Prop} (hI : ∀ w w', I w → Below w.heap.size w w' → I w') : ∀ (cs : List GC) (j : Nat) (w w' : World), Iat I cs j w → Below w.heap.size w w' → Iat I cs j w'
  | cs, 0, w, w', h, hb => by rw [Iat_zero] at h ⊢; exact hI w w' h hb
  | [], j + 1, w, w', h, hb => hI w w' h hb
  | g :: cs, j + 1, w, w', h, hb => by
    refine Iat_kept (I := invG I g) (fun w w' h hb => ?_) cs j w w' h hb
    by_cases hm : g.c.mode = 3
    · rw [invG_eq hm] at h ⊢; exact g.kept w w' h hb
    · rw [invG_ne hm] at h ⊢; exact hI w w' h hb
theorem Iat_float {I F : World → Prop} (hI : ∀ w, I w → F w) : ∀ (cs : List GC) (j : Nat) (w : World), (∀ g ∈ cs, g.c.mode = 3 → ∀ w, g.I w → F w) → Iat I cs j w → F w
  | cs, 0, w, _, h => by rw [Iat_zero] at h; exact hI w h
  | [], j + 1, w, _, h => hI w h
  | g :: cs, j + 1, w, hg, h => by
    refine Iat_float (I := invG I g) (fun w h => ?_) cs j w (fun g' hg' => hg g' (List.mem_cons_of_mem _ hg')) h
    by_cases hm : g.c.mode = 3
    · rw [invG_eq hm] at h; exact hg g (by simp) hm w h
    · rw [invG_ne hm] at h; exact hI w h
/-- The claims that still stand. -/
def standsG (ops : Array Oper) (V : Nat → Value) (l : List Oper) (cs : List GC) (i : Nat) (a : Act) (w : World) (n : Nat) (X : Nat → Prop) : Prop :=
  ∀ (k : Nat) (o : Oper) (c : GC), k < n → l[k]? = some o → cs[k]? = some c → X (i + k) → (∀ (b : Nat) (cb : GC), k < b → b < n → cs[b]? = some cb → cb.c.mode ≠ 3) → c.c.K (opx ops V l i a k o) (V (i + k)) w
theorem standsG_tail {V : Nat → Value} {o : Oper} {l : List Oper} {c : GC} {cs : List GC} {i : Nat} {a : Act} {w : World} {n : Nat} {X : Nat → Prop} (h : standsG ops V (o :: l) (c :: cs) i a w (n + 1) X) : standsG ops V l cs (i + 1) (a.put o.dst (V i)) w n X := by
  intro k o' c' hk ho hc hX hb
  have := h (k + 1) o' c' (by omega) (by simpa using ho) (by simpa using hc) (by simpa [Nat.add_assoc, Nat.add_comm 1 k] using hX) (fun b cb h1 h2 h3 => by
    obtain ⟨b, rfl⟩ : ∃ b', b = b' + 1 := ⟨b - 1, by omega⟩
    exact hb b cb (by omega) (by omega) (by simpa using h3))
  rw [opx_succ] at this
  simpa [Nat.add_assoc, Nat.add_comm 1 k] using this
theorem nextG_dep {o : Oper} {c : Clm} {i : Nat} {k : World → Prop} {ks : List (Nat × (World → Prop))} {w : World} (h1 : depB o i = true → k w) (h2 : c.mode ≠ 3 → depK o ks w) : depK o (nextG c i k ks) w := by
  have h3 : (match depB o i with | true => k w | false => True) := by
    cases hd : depB o i with
    | false => trivial
    | true => exact h1 hd
  unfold nextG
  split
  · exact h2 (by omega)
  · exact h2 (by omega)
  · exact ⟨h3, trivial⟩
  · exact ⟨h3, h2 (by assumption)⟩
theorem nextG_all {c : Clm} {i : Nat} {k : World → Prop} {ks : List (Nat × (World → Prop))} {w : World} (h1 : k w) (h2 : c.mode ≠ 3 → allK ks w) : allK (nextG c i k ks) w := by
  unfold nextG
  split
  · exact h2 (by omega)
  · exact h2 (by omega)
  · exact ⟨h1, trivial⟩
  · exact ⟨h1, h2 (by assumption)⟩
def noBarG (cs : List GC) (n : Nat) : Prop := ∀ (b : Nat) (cb : GC), b < n → cs[b]? = some cb → cb.c.mode ≠ 3
def validG (V : Nat → Value) (l : List Oper) (cs : List GC) (i : Nat) (a : Act) : Prop := ∀ (k : Nat) (o : Oper) (c : GC), l[k]? = some o → cs[k]? = some c → c.c.S (opn V l i a k o) (V (i + k))
/-- What the walk in the order of the text has told of each operation. -/
theorem wpG_unroll {V : Nat → Value} : ∀ (I : World → Prop) (l : List Oper) (cs : List GC) (i : Nat) (ks : List (Nat × (World → Prop))) (a : Act), wpG P ops Q F I l cs i ks a → validG V l cs i a →
    (∀ j o, l[j]? = some o → ∃ c ks', cs[j]? = some c ∧ stepG P ops F (Iat I cs j) o c ks' (puts V (fun k => decide (k < i + j)) l i a) ∧ ∀ w, standsG ops V l cs i a w j (fun k => depB o k = true) → (noBarG cs j → depK o ks w) → depK o ks' w) ∧
    (∀ w, Iat I cs cs.length w → standsG ops V l cs i a w cs.length (fun _ => True) → (noBarG cs cs.length → allK ks w) → Q .normal (puts V (fun _ => true) l i a) w)
  | I, [], [], i, ks, a, h, hV => ⟨fun j o hj => by simp at hj, fun w hb _ hk => h w hb (hk fun b cb h1 => by simp at h1)⟩
  | I, [], c :: cs, i, ks, a, h, hV => (by unfold wpG at h; exact h.elim)
  | I, o :: l, [], i, ks, a, h, hV => (by unfold wpG at h; exact h.elim)
  | I, o :: l, c :: cs, i, ks, a, h, hV => by
    simp only [wpG] at h
    obtain ⟨h1, h2⟩ := h
    have hS := hV 0 o c (by simp) (by simp)
    rw [opn_zero] at hS
    have ih := wpG_unroll (invG I c) l cs (i + 1) _ (a.put o.dst (V i)) (h2 _ hS) (fun k o' c' ho hk => by
      have := hV (k + 1) o' c' (by simpa using ho) (by simpa using hk)
      rw [opn_succ] at this
      simpa [Nat.add_assoc, Nat.add_comm 1 k] using this)
    have bars : ∀ n, noBarG cs n → ∀ (b : Nat) (cb : GC), 0 < b → b < n + 1 → (c :: cs)[b]? = some cb → cb.c.mode ≠ 3 := fun n hn b cb h1 h2 h3 => by
      obtain ⟨b, rfl⟩ : ∃ b', b = b' + 1 := ⟨b - 1, by omega⟩
      exact hn b cb (by omega) (by simpa using h3)
    have bars' : ∀ n, noBarG cs n → c.c.mode ≠ 3 → noBarG (c :: cs) (n + 1) := fun n hn hc b cb h2 h3 => by
      cases b with
      | zero => simp at h3; subst h3; exact hc
      | succ b => exact hn b cb (by omega) (by simpa using h3)
    refine ⟨fun j o' hj => ?_, fun w hb hk hks => ?_⟩
    · cases j with
      | zero =>
        simp only [List.getElem?_cons_zero, Option.some.injEq] at hj
        subst hj
        refine ⟨c, ks, by simp, ?_, fun w _ hk => hk fun b cb h1 => by omega⟩
        rw [puts_none (o :: l) i a fun k hk => by simpa using hk]
        exact h1
      | succ j =>
        simp only [List.getElem?_cons_succ] at hj
        have e : i + (j + 1) = i + 1 + j := by omega
        have ep : puts V (fun k => decide (k < i + (j + 1))) (o :: l) i a = puts V (fun k => decide (k < i + 1 + j)) l (i + 1) (a.put o.dst (V i)) := by
          simp only [puts, e, show i < i + 1 + j by omega, decide_true, if_true]
        obtain ⟨c', ks', g1, g2, g3⟩ := ih.1 j o' hj
        refine ⟨c', ks', by simpa using g1, by rw [ep]; exact g2, fun w hw hk => g3 w (standsG_tail hw) fun hn => ?_⟩
        refine nextG_dep (fun hd => ?_) fun hc => hk (bars' _ hn hc)
        have := hw 0 o c (by omega) (by simp) (by simp) (by simpa using hd) (bars _ hn)
        rw [opx_zero] at this
        exact this
    · simp only [puts, if_true]
      refine ih.2 w hb (standsG_tail hk) fun hn => ?_
      refine nextG_all ?_ fun hc => hks (bars' _ hn hc)
      have := hk 0 o c (by simp) (by simp) (by simp) trivial (bars _ hn)
      rw [opx_zero] at this
      exact this
/-- What turns memory stands apart from all that asks the world. -/
def barG (ops : Array Oper) (ms : List Nat) : Bool := (List.range ops.size).all fun i => !(ms[i]? == some 3) || (List.range ops.size).all fun j => j == i || (ms[j]? == some 0) || (ms[j]? == some 4) ||
  (decide (j < i) && reachB ops 6 i j) || (decide (i < j) && reachB ops 6 j i)
theorem barG_spec {cs : List GC} (h : barG ops (cs.map (·.c.mode)) = true) {i j : Nat} {oi oj : Oper} {ci cj : GC} (hi : ops[i]? = some oi) (hj : ops[j]? = some oj) (hci : cs[i]? = some ci) (hcj : cs[j]? = some cj) (h2 : ci.c.mode = 3) (h0 : cj.c.mode ≠ 0) (h4 : cj.c.mode ≠ 4) (hne : j ≠ i) :
    (j < i ∧ reachB ops 6 i j = true) ∨ (i < j ∧ reachB ops 6 j i = true) := by
  have hlti : i < ops.size := (Array.getElem?_eq_some_iff.1 hi).1
  have hltj : j < ops.size := (Array.getElem?_eq_some_iff.1 hj).1
  have := List.all_eq_true.1 h i (List.mem_range.2 hlti)
  simp only [List.getElem?_map, hci, Option.map_some, h2, BEq.rfl, Bool.not_true, Bool.false_or] at this
  have := List.all_eq_true.1 this j (List.mem_range.2 hltj)
  simp only [hi, hj, hcj, Option.map_some, Option.getD_some, Bool.or_eq_true, Bool.and_eq_true, decide_eq_true_eq, beq_iff_eq, Option.some.injEq] at this
  rcases this with (((h | h) | h) | h) | h
  · exact absurd h hne
  · exact absurd h h0
  · exact absurd h h4
  · exact .inl h
  · exact .inr h
variable {cs : List GC} {a0 : Act}
theorem wpAny_planG (I0 : World → Prop) (hI0 : ∀ w w', I0 w → Below w.heap.size w w' → I0 w') (hF0 : ∀ w, I0 w → F w) (hFs : ∀ g ∈ cs, g.c.mode = 3 → ∀ w, g.I w → F w)
    (hB : planB ops = true) (hbar : barG ops (cs.map (·.c.mode)) = true) (hlen : cs.length = ops.size) (hw : wpG P ops Q F I0 ops.toList cs 0 [] a0) :
    ∀ (fuel : Nat) (listed : Array Bool) (a : Act) (w : World) (V : Nat → Value), listed.size = ops.size →
      (∀ (k : Nat) (o : Oper) (c : GC), listed.getD k false = true → ops[k]? = some o → cs[k]? = some c → c.c.S (opn V ops.toList 0 a0 k o) (V k)) →
      a = puts V (fun k => listed.getD k false) ops.toList 0 a0 →
      (∃ p, p ≤ cs.length ∧ (∀ k g, cs[k]? = some g → g.c.mode = 3 → (listed.getD k false = true ↔ k < p)) ∧ Iat I0 cs p w) →
      (∀ (k : Nat) (o : Oper) (c : GC), listed.getD k false = true → ops[k]? = some o → cs[k]? = some c → (∀ (b : Nat) (cb : GC), k < b → cs[b]? = some cb → listed.getD b false = true → cb.c.mode ≠ 3) → c.c.K (opx ops V ops.toList 0 a0 k o) (V k) w) →
      (∀ j o, ops[j]? = some o → listed.getD j false = true → ∀ k, depB o k = true → listed.getD k false = true) →
      cnt (fun k => listed.getD k false) ops.size ≤ fuel → wpAny P .any ops Q fuel listed a w := by
  obtain ⟨hsel, hpl⟩ := planB_spec hB
  have full : ∀ (listed : Array Bool) (a : Act) (w : World) (V : Nat → Value),
      (∀ (k : Nat) (o : Oper) (c : GC), listed.getD k false = true → ops[k]? = some o → cs[k]? = some c → c.c.S (opn V ops.toList 0 a0 k o) (V k)) → a = puts V (fun k => listed.getD k false) ops.toList 0 a0 →
      (∃ p, p ≤ cs.length ∧ (∀ k g, cs[k]? = some g → g.c.mode = 3 → (listed.getD k false = true ↔ k < p)) ∧ Iat I0 cs p w) →
      (∀ (k : Nat) (o : Oper) (c : GC), listed.getD k false = true → ops[k]? = some o → cs[k]? = some c → (∀ (b : Nat) (cb : GC), k < b → cs[b]? = some cb → listed.getD b false = true → cb.c.mode ≠ 3) → c.c.K (opx ops V ops.toList 0 a0 k o) (V k) w) →
      (∀ j, j < ops.size → listed.getD j false = true) → Q .normal a w := by
    intro listed a w V hV ha hb hK hall
    have hI : Iat I0 cs cs.length w := by
      obtain ⟨p, hp, h1, h2⟩ := hb
      have := Iat_over I0 cs (cs.length - p) p (fun k g hpk _ hg hm => by
        have hk := (h1 k g hg hm).1 (hall k (by have := (List.getElem?_eq_some_iff.1 hg).1; omega))
        omega) (by omega)
      rw [show p + (cs.length - p) = cs.length by omega] at this
      rw [this]; exact h2
    have := (wpG_unroll (V := V) I0 ops.toList cs 0 [] a0 hw (fun k o c ho hk => by
      have ho' : ops[k]? = some o := by simpa using ho
      simpa using hV k o c (hall k (Array.getElem?_eq_some_iff.1 ho').1) ho' hk)).2 w hI
      (fun k o c hlt ho hk _ hnb => by
        have ho' : ops[k]? = some o := by simpa using ho
        have := hK k o c (hall k (by omega)) ho' hk (fun b cb h1 h2 h3 => hnb b cb h1 (List.getElem?_eq_some_iff.1 h2).1 h2)
        simpa using this) (fun _ => trivial)
    rw [ha, puts_congr (V' := V) (D' := fun _ => true) ops.toList 0 a0 fun k _ h2 => ⟨hall k (by simpa using h2), fun _ => rfl⟩]
    exact this
  intro fuel
  induction fuel with
  | zero =>
    intro listed a w V hsz hV ha hb hK hdown hcnt
    have hall := cnt_zero (Nat.le_zero.1 hcnt)
    refine ⟨?_, full listed a w V hV ha hb hK hall⟩
    refine List.eq_nil_iff_forall_not_mem.2 fun j hj => ?_
    obtain ⟨h0, o, ho, _⟩ := mem_ready.1 hj
    have hlt : j < ops.size := (Array.getElem?_eq_some_iff.1 ho).1
    have := hall j hlt
    simp only [Array.getD_eq_getD_getElem?] at h0 this
    rw [Array.getElem?_eq_getElem (by omega)] at h0 this
    simp at h0 this
    rw [h0] at this; cases this
  | succ fuel ih =>
    intro listed a w V hsz hV ha hb hK hdown hcnt
    have conv : ∀ j, j < ops.size → listed.getD j true = listed.getD j false := fun j hj => by
      simp only [Array.getD_eq_getD_getElem?]
      rw [Array.getElem?_eq_getElem (by omega)]; rfl
    refine ⟨fun hnil => ?_, fun i hi => ?_⟩
    · have hall : ∀ j, j < ops.size → listed.getD j false = true := by
        intro j
        induction j using Nat.strongRecOn with
        | ind j ihj =>
          intro hj
          cases hl : listed.getD j false with
          | true => rfl
          | false =>
            have : j ∈ Region.ready .any ops listed := mem_ready.2 ⟨by rw [conv j hj]; exact hl, ops[j], Array.getElem?_eq_getElem hj, fun e he hbd => by
              have hd : depB ops[j] e.on = true := by
                rw [depB_iff]
                obtain ⟨k, hk, rfl⟩ := Array.mem_iff_getElem.1 he
                exact ⟨k, hk, by simp [hbd]⟩
              have hlt := (hpl j ops[j] (Array.getElem?_eq_getElem hj)).1 _ hd
              exact ihj _ hlt (by omega)⟩
            rw [hnil] at this; cases this
      exact full listed a w V hV ha hb hK hall
    · obtain ⟨h0, o, ho, hafter⟩ := mem_ready.1 hi
      have hlt : i < ops.size := (Array.getElem?_eq_some_iff.1 ho).1
      have h0' : listed.getD i false = false := by rw [← conv i hlt]; exact h0
      have hdeps : ∀ k, depB o k = true → listed.getD k false = true := fun k hk => by
        rw [depB_iff] at hk
        obtain ⟨q, hq, hk⟩ := hk
        simp only [Bool.and_eq_true, beq_iff_eq] at hk
        have := hafter o.after[q] (Array.getElem_mem hq) hk.2
        rw [hk.1] at this; exact this
      have hgo : ∀ j, (listed.setIfInBounds i true).getD j false = (j == i || listed.getD j false) := fun j => by
        by_cases hji : j = i
        · subst hji; simp [show j < listed.size by omega]
        · rw [getD_set_ne false (fun e => hji e.symm)]; simp [hji]
      obtain ⟨V1, hV1, hval0⟩ := extend (cs := cs.map (·.c)) (a0 := a0) hB V (fun k => listed.getD k false) hdown (fun k o c h1 h2 h3 => by
        rw [List.getElem?_map] at h3
        obtain ⟨g, hg, rfl⟩ := Option.map_eq_some_iff.1 h3
        exact hV k o g h1 h2 hg)
      have hval : validG V1 ops.toList cs 0 a0 := fun k o g h1 h2 => hval0 k o g.c h1 (by rw [List.getElem?_map, h2]; rfl)
      have hlook : ∀ t ∈ o.looksAt ops, (puts V1 (fun k => decide (k < 0 + i)) ops.toList 0 a0).tmps[t]? = a.tmps[t]? := fun t ht => by
        rw [ha]
        refine puts_look ops.toList 0 a0 a0 (fun k ok hk hd => ?_) rfl
        have hk' : ops[k]? = some ok := by simpa using hk
        simp only [Nat.zero_add]
        rcases ((hpl i o ho).2 k ok t hk' hd).1 ht with hdep | ⟨hik, hdep⟩
        · have h1 := (hpl i o ho).1 k hdep
          have h2 := hdeps k hdep
          exact ⟨by rw [h2]; simpa using h1, fun _ => hV1 k h2⟩
        · refine ⟨?_, fun hD => by simp at hD; omega⟩
          cases hl : listed.getD k false with
          | false => simp; omega
          | true => have := hdown k ok hk' hl i hdep; rw [h0'] at this; cases this
      obtain ⟨he, hwn⟩ := exec_look (ops := ops) (hsel i o · · ho) hlook
      have hoa : o.op.operands.toList.map (puts V1 (fun k => decide (k < 0 + i)) ops.toList 0 a0).eval = opn V ops.toList 0 a0 i o := opn_congr (V' := V) hB ho fun j hj => hV1 j (hdeps j hj)
      have hoax : oargs ops o (puts V1 (fun k => decide (k < 0 + i)) ops.toList 0 a0) = opx ops V ops.toList 0 a0 i o := opx_congr (V' := V) hB ho fun j hj => hV1 j (hdeps j hj)
      obtain ⟨c, ks', g1, g2, g3⟩ := (wpG_unroll (V := V1) I0 ops.toList cs 0 [] a0 hw hval).1 i o (by simpa using ho)
      have hi' : i < cs.length := (List.getElem?_eq_some_iff.1 g1).1
      have hks : c.c.mode ≠ 0 → c.c.mode ≠ 4 → depK o ks' w := fun hm0 hm4 => g3 w (fun k ok ck hki hok hck hd hnb => by
          have hok' : ops[k]? = some ok := by simpa using hok
          have hd' : depB o k = true := by simpa using hd
          have hDk := hdeps k hd'
          have := hK k ok ck hDk hok' hck (fun b cb hkb hcb hDb hm => by
            have hbl : b < cs.length := (List.getElem?_eq_some_iff.1 hcb).1
            have hob : ops[b]? = some ops[b] := Array.getElem?_eq_getElem (by omega)
            by_cases hbi : b < i
            · exact hnb b cb hkb hbi hcb hm
            · have hbne : i ≠ b := by rintro rfl; rw [h0'] at hDb; cases hDb
              rcases barG_spec hbar hob ho hcb g1 hm hm0 hm4 hbne with ⟨_, h⟩ | ⟨h, _⟩
              · have := reachB_down (D := fun k => listed.getD k false) hdown 6 b i h hDb
                rw [h0'] at this; cases this
              · omega)
          rw [opx_congr (V' := V) hB hok' fun j hj => hV1 j (hdown k ok hok' hDk j hj)]
          simpa [hV1 k hDk] using this) (fun _ => trivial)
      obtain ⟨p, hp, hp1, hp2⟩ := hb
      have hFw : F w := Iat_float hF0 cs p w hFs hp2
      /- ahead of an operation that asks the world those that turn memory are done just as far as the text -/
      have hbefore : c.c.mode ≠ 0 → c.c.mode ≠ 4 → ∀ k g, cs[k]? = some g → g.c.mode = 3 → (listed.getD k false = true ↔ k < i) := fun hm0 hm4 k g hg hm => by
        have hkl : k < cs.length := (List.getElem?_eq_some_iff.1 hg).1
        have hok : ops[k]? = some ops[k] := Array.getElem?_eq_getElem (by omega)
        constructor
        · intro hl
          rcases Nat.lt_or_ge k i with h | h
          · exact h
          · have hne : i ≠ k := by rintro rfl; rw [h0'] at hl; cases hl
            rcases barG_spec hbar hok ho hg g1 hm hm0 hm4 hne with ⟨_, h'⟩ | ⟨h', _⟩
            · have := reachB_down (D := fun k => listed.getD k false) hdown 6 k i h' hl
              rw [h0'] at this; cases this
            · omega
        · intro hki
          rcases barG_spec hbar hok ho hg g1 hm hm0 hm4 (by omega) with ⟨h', _⟩ | ⟨_, h'⟩
          · omega
          · unfold reachB at h'
            rw [ho] at h'
            simp only [Bool.or_eq_true] at h'
            rcases h' with h' | h'
            · exact hdeps k h'
            · obtain ⟨q, _, hq⟩ := List.any_eq_true.1 h'
              rw [Bool.and_eq_true] at hq
              exact reachB_down (D := fun k => listed.getD k false) hdown 5 q k hq.2 (hdeps q hq.1)
      have hIat : c.c.mode ≠ 0 → c.c.mode ≠ 4 → Iat I0 cs i w := fun hm0 hm4 => by
        have hb' := hbefore hm0 hm4
        rcases Nat.lt_or_ge p i with h | h
        · have := Iat_over I0 cs (i - p) p (fun k g h1 h2 hg hm => by
            have := (hp1 k g hg hm).1 ((hb' k g hg hm).2 (by omega)); omega) (by omega)
          rw [show p + (i - p) = i by omega] at this
          rw [this]; exact hp2
        · have := Iat_over I0 cs (p - i) i (fun k g h1 h2 hg hm => by
            have := (hb' k g hg hm).1 ((hp1 k g hg hm).2 (by omega)); omega) (by omega)
          rw [show i + (p - i) = p by omega] at this
          rw [← this]; exact hp2
      have next : ∀ u w', (c.c.mode ≠ 3 → Below w.heap.size w w') ∧ (c.c.mode = 3 → c.I w') ∧ c.c.S (opn V ops.toList 0 a0 i o) u ∧ c.c.K (opx ops V ops.toList 0 a0 i o) u w' → wpAny P .any ops Q fuel (listed.setIfInBounds i true) (a.put o.dst u) w' := by
          rintro u w' ⟨hbl, hbW, hSu, hKu⟩
          have opnU : ∀ k ok, ops[k]? = some ok → (k = i ∨ listed.getD k false = true) → opn (fun q => if q = i then u else V q) ops.toList 0 a0 k ok = opn V ops.toList 0 a0 k ok := fun k ok hok hk =>
            opn_congr hB hok fun j hj => by
              have : j ≠ i := by
                rintro rfl
                rcases hk with rfl | hk
                · have := (hpl k ok hok).1 k hj; omega
                · have := hdown k ok hok hk j hj
                  rw [h0'] at this; cases this
              simp [this]
          have opxU : ∀ k ok, ops[k]? = some ok → (k = i ∨ listed.getD k false = true) → opx ops (fun q => if q = i then u else V q) ops.toList 0 a0 k ok = opx ops V ops.toList 0 a0 k ok := fun k ok hok hk =>
            opx_congr hB hok fun j hj => by
              have : j ≠ i := by
                rintro rfl
                rcases hk with rfl | hk
                · have := (hpl k ok hok).1 k hj; omega
                · have := hdown k ok hok hk j hj
                  rw [h0'] at this; cases this
              simp [this]
          refine ih (listed.setIfInBounds i true) _ w' (fun k => if k = i then u else V k) (by simpa using hsz) (fun k ok c' hl hok hk => ?_) ?_ ?_ (fun k ok c' hl hok hk hnb => ?_) (fun j oj hj hl k hd => ?_) ?_
          · rw [hgo] at hl
            by_cases hki : k = i
            · subst hki
              rw [hk] at g1; cases g1
              rw [hok] at ho; cases ho
              rw [opnU k _ hok (.inl rfl)]
              simpa using hSu
            · have hl : listed.getD k false = true := by simpa [hki] using hl
              rw [opnU k ok hok (.inr hl)]
              simpa [hki] using hV k ok c' hl hok hk
          · rw [ha, puts_put ops.toList 0 i a0 (by simpa using ho) (by simpa using h0') (fun k o' hk hne d hd => ?_)]
            · exact puts_congr ops.toList 0 a0 fun k _ _ => ⟨by simp only [Nat.zero_add]; exact (hgo k).symm, fun _ => by simp⟩
            · exact ((hpl k o' (by simpa using hk)).2 i o d ho hd).2 hne
          · by_cases hm3 : c.c.mode = 3
            · refine ⟨i + 1, by omega, fun k g hg hm => ?_, ?_⟩
              · rw [hgo]
                have := hbefore (by omega) (by omega) k g hg hm
                by_cases hki : k = i
                · subst hki; simp
                · simp only [beq_iff_eq, hki, Bool.or_eq_true, false_or]
                  rw [this]; omega
              · rw [Iat_succ _ _ _ _ g1, invG_eq hm3]; exact hbW hm3
            · refine ⟨p, hp, fun k g hg hm => ?_, Iat_kept hI0 cs p w w' hp2 (hbl hm3)⟩
              rw [hgo]
              by_cases hki : k = i
              · subst hki
                rw [hg] at g1; cases g1
                exact absurd hm hm3
              · simp only [beq_iff_eq, hki, Bool.or_eq_true, false_or]
                exact hp1 k g hg hm
          · by_cases hki : k = i
            · subst hki
              rw [hk] at g1; cases g1
              rw [hok] at ho; cases ho
              rw [opxU k _ hok (.inl rfl)]
              simpa using hKu
            · rw [hgo] at hl
              have hl : listed.getD k false = true := by simpa [hki] using hl
              rw [opxU k ok hok (.inr hl)]
              simp only [if_neg hki]
              by_cases hm0 : c'.c.mode = 0
              · exact c'.c.quiet hm0 _ _ _
              · by_cases hm4 : c'.c.mode = 4
                · obtain ⟨c4, ks4, q1, q2, _⟩ := (wpG_unroll (V := V1) I0 ops.toList cs 0 [] a0 hw hval).1 k ok (by simpa using hok)
                  rw [hk] at q1; cases q1
                  rcases q2 with ⟨_, _, _, q4, _⟩ | ⟨_, q0, _⟩
                  · exact (q4 hm4).1 _ _ _
                  · exact absurd q0 hm0
                · by_cases hm2 : c.c.mode = 3
                  · exfalso
                    rcases barG_spec hbar ho hok g1 hk hm2 hm0 hm4 hki with ⟨h, _⟩ | ⟨_, h⟩
                    · exact hnb i c h g1 (by rw [hgo]; simp) hm2
                    · have := reachB_down (D := fun k => listed.getD k false) hdown 6 k i h hl
                      rw [h0'] at this; cases this
                  · exact c'.c.keeps _ _ _ _ (hK k ok c' hl hok hk fun b cb h1 h2 h3 => hnb b cb h1 h2 (by rw [hgo, h3]; simp)) (hbl hm2)
          · rw [hgo] at hl ⊢
            by_cases hji : j = i
            · subst hji
              rw [hj] at ho; cases ho
              rw [hdeps k hd]; simp
            · have : listed.getD j false = true := by simpa [hji] using hl
              rw [hdown j oj hj this k hd]; simp
          · have := cnt_set (f := fun k => listed.getD k false) (g := fun k => (listed.setIfInBounds i true).getD k false) (i := i) h0' (by simp only [hgo]; simp) (fun j hj => by simp only [hgo]; simp [hj]) hlt
            omega
      unfold wpOp
      simp only [ho]
      unfold stepG at g2
      rw [hoa, hoax] at g2
      rcases g2 with ⟨k1, km, k0, k4, k5, k3⟩ | ⟨k1, k2, k3⟩
      · rw [← hwn, k1, if_pos rfl]
        rcases km with hm | hm | hm | hm
        · refine .inl (uponC_op (T := fun u w' => (∃ n, w' = w.drewN n) ∧ c.c.S (opn V ops.toList 0 a0 i o) u) (fun u w' hT => ?_) ?_)
          · obtain ⟨⟨n, rfl⟩, hS⟩ := hT
            exact next u _ ⟨fun _ => below_drewN (Below.refl _ _) _, fun h => by omega, hS, c.c.quiet hm _ _ _⟩
          · rw [← he]; exact k0 hm w
        · refine .inl (uponC_op (T := fun u w' => Below w.heap.size w w' ∧ c.c.S (opn V ops.toList 0 a0 i o) u ∧ c.c.K (opx ops V ops.toList 0 a0 i o) u w') (fun u w' hT => next u w' ⟨fun _ => hT.1, fun h => by omega, hT.2⟩) ?_)
          rw [← he]; exact k5 hm w (hIat (by omega) (by omega)) (hks (by omega) (by omega))
        · refine .inl (uponC_op (T := fun u w' => c.I w' ∧ c.c.S (opn V ops.toList 0 a0 i o) u ∧ c.c.K (opx ops V ops.toList 0 a0 i o) u w') (fun u w' hT => next u w' ⟨fun h => absurd hm h, fun _ => hT.1, hT.2⟩) ?_)
          rw [← he]; exact k3 hm w (hIat (by omega) (by omega)) (hks (by omega) (by omega))
        · refine .inl (uponC_op (T := fun u w' => Below w.heap.size w w' ∧ c.c.S (opn V ops.toList 0 a0 i o) u) (fun u w' hT => next u w' ⟨fun _ => hT.1, fun h => by omega, hT.2, (k4 hm).1 _ _ _⟩) ?_)
          rw [← he]; exact (k4 hm).2 w hFw
      · rw [← hwn, k1, if_neg (by simp)]
        exact next undef w ⟨fun _ => Below.refl _ _, fun h => by omega, k3, c.c.quiet k2 _ _ _⟩
/-- What always holds follows from each operation that turns memory. -/
def allF (F : World → Prop) : List GC → Prop
  | [] => True
  | g :: cs => (match g.c.mode with | 3 => ∀ w, g.I w → F w | _ => True) ∧ allF F cs
theorem allF_mem {F : World → Prop} : ∀ {cs : List GC}, allF F cs → ∀ g ∈ cs, g.c.mode = 3 → ∀ w, g.I w → F w
  | [], _, g, hg, _, _, _ => by cases hg
  | g' :: cs, h, g, hg, hm, w, hw => by
    rcases List.mem_cons.1 hg with rfl | hg
    · have h1 := h.1
      rw [hm] at h1
      exact h1 w hw
    · exact allF_mem h.2 g hg hm w hw
/-- ONE WALK OF THE ORDER OF THE TEXT SERVES EVERY ORDER. -/
theorem wp_region_planG {id : Nat} {a : Act} {W : World} {l : List Oper} {cs : List GC} (I0 : World → Prop) (hI0 : ∀ w w', I0 w → Below w.heap.size w w' → I0 w') (hW : I0 W) (hF0 : ∀ w, I0 w → F w)
    (hw : wpG P l.toArray Q F I0 l cs 0 [] a) (hFs : allF F cs) (hpr1 : P.follows .mixedOrders = true) (hpr2 : planB l.toArray = true) (hpr3 : barG l.toArray (cs.map (·.c.mode)) = true) (hlen : cs.length = l.length) : (Code.region id l.toArray true).wp P Q a W := by
  have hsz : l.toArray.size = l.length := by simp
  refine wp_region_any hpr1 ?_
  refine wpAny_planG (cs := cs) (a0 := a) I0 hI0 hF0 (allF_mem hFs) hpr2 hpr3 (by omega) (by simpa using hw) _ _ _ _ (fun _ => undef) (by simp) ?_ ?_ ?_ ?_ ?_ ?_
  · intro k o c hl
    exfalso
    simp only [Array.getD_eq_getD_getElem?] at hl
    by_cases hk : k < l.length <;> simp [hk] at hl
  · refine (puts_none _ _ _ fun k _ => ?_).symm
    simp only [Array.getD_eq_getD_getElem?]
    by_cases hk : k < l.length <;> simp [hk]
  · refine ⟨0, Nat.zero_le _, fun k g _ _ => ?_, ?_⟩
    · simp only [Array.getD_eq_getD_getElem?]
      by_cases hk : k < l.length <;> simp [hk]
    · rw [Iat_zero]; exact hI0 W _ hW ((Below.refl _ _).drew)
  · intro k o c hl
    exfalso
    simp only [Array.getD_eq_getD_getElem?] at hl
    by_cases hk : k < l.length <;> simp [hk] at hl
  · intro j o _ hl
    exfalso
    simp only [Array.getD_eq_getD_getElem?] at hl
    by_cases hk : j < l.length <;> simp [hk] at hl
  · have : ∀ (f : Nat → Bool) (n : Nat), cnt f n ≤ n := by
      intro f n
      induction n with
      | zero => exact Nat.le_refl _
      | succ n ih => simp only [cnt]; split <;> omega
    exact this _ _
end
section
variable {P : Program} {ops : Array Oper} {Q : Exit → Act → World → Prop} {F I : World → Prop} {l : List Oper} {cs : List GC} {i : Nat} {ks : List (Nat × (World → Prop))} {a : Act} {o : Oper}
theorem wpG_norm {a' : Act} (ha : a = a') (h : wpG P ops Q F I l cs i ks a') : wpG P ops Q F I l cs i ks a := ha ▸ h
theorem wpG_nil (h : ∀ w, I w → allK ks w → Q .normal a w) : wpG P ops Q F I [] [] i ks a := h
theorem wpG_pure (c : Clm) (hm : c.mode = 0) (hw : Region.wanted o (yielded ops a.tmps) = true) (h0 : ∀ w, uponC P (fun u w' => (∃ n, w' = w.drewN n) ∧ c.S (o.op.operands.toList.map a.eval) u) ((execOp a.eval o).run P w))
    (h : ∀ v, c.S (o.op.operands.toList.map a.eval) v → wpG P ops Q F I l cs (i + 1) ks (a.put o.dst v)) : wpG P ops Q F I (o :: l) (GC.of c :: cs) i ks a := by
  simp only [wpG]
  refine ⟨.inl ⟨hw, .inl hm, fun _ => h0, fun h => ?_, fun h => ?_, fun h => ?_⟩, fun v hv => ?_⟩
  · have : c.mode = 4 := h; omega
  · have : c.mode = 1 := h; omega
  · have : c.mode = 3 := h; omega
  · have e1 : invG I (GC.of c) = I := invG_ne (by show c.mode ≠ 3; omega)
    have e2 : nextG (GC.of c).c i ((GC.of c).c.K (oargs ops o a) v) ks = ks := by
      show nextG c i _ ks = ks
      unfold nextG
      split
      · rfl
      · rfl
      · omega
      · rename_i h0 _ _; exact absurd hm h0
    rw [e1, e2]; exact h v hv
theorem wpG_det (v : Value) (hw : Region.wanted o (yielded ops a.tmps) = true) (hs : ∀ cs b, o.op ≠ .select cs b) (h1 : ∀ w, (execOp a.eval o).run P w = .ok (.value v) w)
    (h : wpG P ops Q F I l cs (i + 1) ks (a.put o.dst v)) : wpG P ops Q F I (o :: l) (GC.of (Clm.det P o) :: cs) i ks a := by
  have hp : PureAt P o (o.op.operands.toList.map a.eval) v := ⟨⟨a, rfl⟩, fun a' w he => by
    rw [execOp_congr (ρ := a'.eval) (ρ' := a.eval) o hs fun x hx => ?_]
    · exact h1 w
    · have := List.map_inj_left.1 he x (by simpa using hx)
      exact this⟩
  refine wpG_pure (Clm.det P o) rfl hw (fun w => ?_) fun u hu => ?_
  · rw [h1 w]; exact ⟨⟨0, rfl⟩, fun u hu => hp.uniq hu⟩
  · rw [hu v hp]; exact h
theorem wpG_fop {op : BinOp} {t t' : TypeId} {X Y : Operand} (ho : o.op = .binOp op t X Y t') (hop : arithOp op = true) {k : FloatKind} {x y : Nat} (hx : a.eval X = .float k x) (hy : a.eval Y = .float k y) (hw : Region.wanted o (yielded ops a.tmps) = true)
    (h : ∀ r, (∀ cx cy, cn k x = cx → cn k y = cy → cn k r = Go.Proofs.Ytphamdlnnfionaa.fop op k cx cy) → wpG P ops Q F I l cs (i + 1) ks (a.put o.dst (.float k r))) : wpG P ops Q F I (o :: l) (GC.of (Clm.fop op) :: cs) i ks a := by
  have hl : o.op.operands.toList.map a.eval = [.float k x, .float k y] := by rw [ho]; simp [Op.operands, hx, hy]
  refine wpG_pure (Clm.fop op) rfl hw (fun w => ?_) fun u hu => ?_
  · obtain ⟨r, n, h1, h2⟩ := run_exec_fop (P := P) op hop t t' X Y ho k x y hx hy w
    rw [h1, hl]
    refine ⟨⟨n, rfl⟩, fun k' p' q' e => ?_⟩
    simp only [List.cons.injEq, Value.float.injEq, and_true] at e
    obtain ⟨⟨rfl, rfl⟩, _, rfl⟩ := e
    exact ⟨r, rfl, h2⟩
  · rw [hl] at hu
    obtain ⟨r, rfl, hr⟩ := hu k x y rfl
    exact h r (by rintro cx cy rfl rfl; exact hr)
/-- A load of what never turns. -/
def Clm.any (v : Value) : Clm := ⟨4, fun _ u => u = v, fun _ _ _ => True, fun _ => ⟨v, rfl⟩, fun _ _ _ _ _ _ => trivial, fun h => nomatch h⟩
theorem wpG_any (v : Value) (hw : Region.wanted o (yielded ops a.tmps) = true) (h1 : ∀ w, F w → (execOp a.eval o).run P w = .ok (.value v) w)
    (h : wpG P ops Q F I l cs (i + 1) ks (a.put o.dst v)) : wpG P ops Q F I (o :: l) (GC.of (Clm.any v) :: cs) i ks a := by
  simp only [wpG]
  refine ⟨.inl ⟨hw, .inr (.inr (.inr rfl)), fun h => absurd (show (4 : Nat) = 0 from h) (by decide), fun _ => ⟨fun _ _ _ => trivial, fun w hF => ?_⟩, fun h => absurd (show (4 : Nat) = 1 from h) (by decide), fun h => absurd (show (4 : Nat) = 3 from h) (by decide)⟩, fun u hu => ?_⟩
  · rw [h1 w hF]; exact ⟨Below.refl _ _, rfl⟩
  · have hu : u = v := hu
    subst hu; exact h
/-- An operation that turns memory, with one value. -/
def GC.turn (v : Value) (I' K : World → Prop) (hI : ∀ w w', I' w → Below w.heap.size w w' → I' w') (hK : ∀ w w', K w → Below w.heap.size w w' → K w') : GC :=
  ⟨⟨3, fun _ u => u = v, fun _ _ w => K w, fun _ => ⟨v, rfl⟩, fun _ _ w w' h hb => hK w w' h hb, fun h => nomatch h⟩, I', hI⟩
/-- A call that turns memory. -/
theorem wpG_turnC (c : Clm) (hm : c.mode = 3) (I' : World → Prop) (hI : ∀ w w', I' w → Below w.heap.size w w' → I' w') (hw : Region.wanted o (yielded ops a.tmps) = true) {f : FuncId} {args : Array Value} (he : ∀ w, (execOp a.eval o).run P w = .ok (.enter f args) w)
    (h1 : ∀ w, I w → depK o ks w → Calls P f args w (fun e w' => ∃ v, e = .returned v ∧ I' w' ∧ c.S (o.op.operands.toList.map a.eval) v ∧ c.K (oargs ops o a) v w'))
    (h : ∀ v, c.S (o.op.operands.toList.map a.eval) v → wpG P ops Q F I' l cs (i + 1) [(i, c.K (oargs ops o a) v)] (a.put o.dst v)) : wpG P ops Q F I (o :: l) (⟨c, I', hI⟩ :: cs) i ks a := by
  simp only [wpG]
  refine ⟨.inl ⟨hw, .inr (.inr (.inl hm)), fun h => ?_, fun h => ?_, fun h => ?_, fun _ w hi hk => ?_⟩, fun v hv => ?_⟩
  · have : c.mode = 0 := h; omega
  · have : c.mode = 4 := h; omega
  · have : c.mode = 1 := h; omega
  · rw [he w]
    exact Calls.mono (h1 w hi hk) fun e w' ⟨v, e1, h2⟩ => ⟨v, e1, h2⟩
  · have e1 : invG I ⟨c, I', hI⟩ = I' := invG_eq hm
    have e2 : nextG c i (c.K (oargs ops o a) v) ks = [(i, c.K (oargs ops o a) v)] := by
      unfold nextG
      split <;> first | omega | exact absurd hm (by assumption) | rfl
    show wpG P ops Q F (invG I ⟨c, I', hI⟩) l cs (i + 1) (nextG c i (c.K (oargs ops o a) v) ks) _
    rw [e1, e2]; exact h v hv
end
attribute [irreducible] wpG
end Go.Proofs.Ytphamdlnnfionaa
set_option linter.unusedSimpArgs false
set_option linter.unusedVariables false
set_option linter.unusedSectionVars false
namespace Go.Proofs.Ytphamdlnnfionaa
open Go Go.RowKit
section
variable {P : Program} {ops : Array Oper} {Q : Exit → Act → World → Prop} {F I : World → Prop} {l : List Oper} {cs : List GC} {i : Nat} {ks : List (Nat × (World → Prop))} {a : Act} {o : Oper}
end
/-- An own slice with a number more; where it lies. -/
def appP (B S : Nat) (g0 : Option Nat) (xs : List Nat) (v : Value) (w : World) : Prop := OF B w v xs ∧ (v.ownBlock = g0 ∨ ∀ k, v.ownBlock = some k → S ≤ k)
theorem appP.later {B S : Nat} {g0 : Option Nat} {xs : List Nat} {v : Value} {w w' : World} (h : appP B S g0 xs v w) (hb : Below w.heap.size w w') : appP B S g0 xs v w' := ⟨h.1.later hb, h.2⟩
end Go.Proofs.Ytphamdlnnfionaa
set_option linter.unusedSimpArgs false
set_option linter.unusedVariables false
set_option linter.unusedSectionVars false
namespace Go.Proofs.Ytphamdlnnfionaa
open Go Go.RowKit
theorem grown_setCells (b : Nat) : ∀ (vs : List Value) (o : Nat) (w : World), w.grownBy (w.setCells b o vs) (some b)
  | [], _, w => World.grownBy.refl _ _
  | v :: r, o, w => World.grownBy.trans (b := w.setCell ⟨b, o, none⟩ v) ⟨rfl, rfl, rfl, by simp, fun k _ hk => Below.heap_setCell _ _ _ _ (fun e => hk (by rw [e]))⟩ (grown_setCells b r (o + 1) _)
structure K2 (w0 : World) (g : Option Nat) (b : Nat) (u : World) : Prop where
  os : u.os = w0.os
  tape : u.tape = w0.tape
  output : u.output = w0.output
  size : w0.heap.size ≤ u.heap.size
  block : ∀ k, k < w0.heap.size → some k ≠ g → k ≠ b → u.heap[k]? = w0.heap[k]?
theorem K2.later {w0 : World} {g : Option Nat} {b : Nat} {u v : World} (h : K2 w0 g b u) (hb : Below u.heap.size u v) : K2 w0 g b v :=
  ⟨hb.os.trans h.os, hb.tape.trans h.tape, hb.output.trans h.output, Nat.le_trans h.size hb.size, fun k hk h1 h2 => (hb.block k (Nat.lt_of_lt_of_le hk h.size)).trans (h.block k hk h1 h2)⟩
theorem K2.of {w0 : World} {g : Option Nat} {b : Nat} {u : World} (h : w0.grownBy u g) (o : Nat) (vs : List Value) : K2 w0 g b (u.setCells b o vs) := by
  have h2 := grown_setCells b vs o u
  exact ⟨h2.os.trans h.os, h2.tape.trans h.tape, h2.output.trans h.output, Nat.le_trans h.size h2.size, fun k hk h1 h3 => (h2.block k (Nat.lt_of_lt_of_le hk h.size) (by simpa using h3)).trans (h.block k hk h1)⟩
theorem K2.below {w0 : World} {g : Option Nat} {b B : Nat} {u : World} (h : K2 w0 g b u) (h0 : B ≤ w0.heap.size) (hg : ∀ k, g = some k → B ≤ k) (hb : B ≤ b) : Below B w0 u :=
  ⟨h.os, h.tape, h.output, h.size, fun k hk => h.block k (by omega) (fun e => by have := hg k e.symm; omega) (by omega)⟩
theorem owned_kept {w w' : World} {b : Nat} {xs : List Value} {g : Option Nat} (h : owned w b xs) (hg : w.grownBy w' g) (hlt : b < w.heap.size) (hne : ∀ k, g = some k → k ≠ b) : owned w' b xs := by
  have e := hg.block b hlt (fun e => hne b e.symm rfl)
  exact fun k x hk => ⟨(World.cell?_of_block (a := ⟨b, k, none⟩) e).trans (h k x hk).1, (World.frozen?_of_block (a := ⟨b, k, none⟩) e).trans (h k x hk).2⟩
theorem OF.type {B : Nat} {w : World} {u : Value} {xs : List Nat} (h : OF B w u xs) {b : Nat} {cs : Array Value} {t : TypeId} (hb : w.heap[b]? = some (.cells cs t)) (ht : t ≠ 26) : u.ownBlock = none ∨ u.ownBlock ≠ some b := by
  unfold OF World.ownsRow at h
  rcases h.2 with ⟨h', _⟩ | ⟨g, cap, cur, h', _, hg, _⟩
  · exact .inl (by rw [h']; rfl)
  · refine .inr fun e => ?_
    rw [h'] at e
    have e2 : g = b := by simpa [Value.ownBlock] using e
    subst e2
    rw [hg] at hb
    simp only [Option.some.injEq, Obj.cells.injEq] at hb
    exact ht hb.2.1.symm
section
variable {P : Program} {ops : Array Oper} {Q : Exit → Act → World → Prop} {F I : World → Prop} {l : List Oper} {cs : List GC} {i : Nat} {ks : List (Nat × (World → Prop))} {a : Act} {o : Oper}
end
end Go.Proofs.Ytphamdlnnfionaa
set_option linter.unusedSimpArgs false
set_option linter.unusedVariables false
set_option linter.unusedSectionVars false
namespace Go.Proofs.Ytphamdlnnfionaa
open Go Go.RowKit
open Go.ChangeShapes Go.WideShapes Go.ChangeAt Go.RowKit Go.Joins
structure Row where
  t : TypeId
  v : Value
  n : Nat
  vs : List Value
def Row.at (r : Row) (B : Nat) (w : World) : Prop := w.ownsRow B r.t 1 r.v r.n r.vs
/-- Rows of the call's own that lie apart. -/
def RS (B : Nat) (w : World) (f : Nat → Row) : Prop := (∀ i, i < 4 → (f i).at B w) ∧ ∀ i j, i < 4 → j < 4 → i ≠ j → ∀ k, (f i).v.ownBlock = some k → (f j).v.ownBlock ≠ some k
def upd (f : Nat → Row) (i : Nat) (r : Row) : Nat → Row := fun j => if j = i then r else f j
section
variable {B : Nat} {w w' : World} {f : Nat → Row} {i : Nat} {r : Row} {b : Nat} {cs : List Value}
theorem Row.at.kept {row : Option Nat} (h : r.at B w) (hg : w.grownBy w' row) (hne : ∀ k, r.v.ownBlock = some k → row ≠ some k) : r.at B w' := by
  refine World.ownsRow.kept h hg ?_
  cases hu : r.v.ownBlock with
  | none => exact .inl rfl
  | some k => exact .inr fun e => hne k hu e.symm
theorem Row.at.later (h : r.at B w) (hb : Below w.heap.size w w') : r.at B w' := h.kept (below_grown hb none) fun k _ e => by cases e
theorem RS.later (h : RS B w f) (hb : Below w.heap.size w w') : RS B w' f := ⟨fun i hi => (h.1 i hi).later hb, h.2⟩
theorem RS.grow (h : RS B w f) (hi : i < 4) (hg : w.grownBy w' (f i).v.ownBlock) (hr : r.at B w') (hv : r.v.ownBlock = (f i).v.ownBlock ∨ r.v.ownBlock = some w.heap.size) : RS B w' (upd f i r) := by
  have lt : ∀ j k, j < 4 → (f j).v.ownBlock = some k → k < w.heap.size := fun j k hj hk => (World.ownsRow.lt (h.1 j hj) k hk).2
  refine ⟨fun j hj => ?_, fun a c ha hc hac k hk hk' => ?_⟩
  · unfold upd
    split
    · exact hr
    · rename_i hne
      exact (h.1 j hj).kept hg fun k hk e => h.2 j i hj hi hne k hk e
  · unfold upd at hk hk'
    by_cases e1 : a = i
    · have e2 : ¬ c = i := fun e => hac (e1.trans e.symm)
      rw [if_pos e1] at hk
      rw [if_neg e2] at hk'
      rcases hv with hv | hv
      · exact h.2 c i hc hi e2 k hk' (hv.symm.trans hk)
      · have e3 : w.heap.size = k := by rw [hv] at hk; simpa using hk
        have := lt c k hc hk'
        omega
    · rw [if_neg e1] at hk
      by_cases e2 : c = i
      · rw [if_pos e2] at hk'
        rcases hv with hv | hv
        · exact h.2 a i ha hi e1 k hk (hv.symm.trans hk')
        · have e3 : w.heap.size = k := by rw [hv] at hk'; simpa using hk'
          have := lt a k ha hk
          omega
      · rw [if_neg e2] at hk'
        exact h.2 a c ha hc hac k hk hk'
/-- Such rows beside a variable with these cells. -/
def RV (B : Nat) (w : World) (b : Nat) (cs : List Value) (f : Nat → Row) : Prop := (owned w b cs ∧ B ≤ b) ∧ (∀ i, i < 4 → (f i).v.ownBlock ≠ some b) ∧ RS B w f
theorem RV.later (h : RV B w b cs f) (hb : Below w.heap.size w w') : RV B w' b cs f := ⟨⟨h.1.1.later hb, h.1.2⟩, h.2.1, h.2.2.later hb⟩
theorem RV.lt (h : RV B w b cs f) (h1 : 0 < cs.length) : b < w.heap.size := World.block_lt_of_cell? _ _ (h.1.1 0 cs[0] (List.getElem?_eq_getElem h1)).1
theorem owned_set {x : Value} {j : Nat} (h : owned w b cs) (hj : j < cs.length) : owned (w.setCell ⟨b, j, none⟩ x) b (cs.set j x) := by
  intro k y hk
  have hkl : k < cs.length := by have := (List.getElem?_eq_some_iff.1 hk).1; simpa using this
  have h1 := h k cs[k] (List.getElem?_eq_getElem hkl)
  refine ⟨?_, by rw [World.frozen?_setCell]; exact h1.2⟩
  by_cases e : j = k
  · subst e
    rw [World.cell?_setCell_same' _ _ _ (by rw [h1.1]; rfl)]
    rw [List.getElem?_set_self hkl] at hk
    exact hk
  · rw [List.getElem?_set_ne e] at hk
    rw [World.cell?_setCell_other]
    · exact (h k y hk).1
    · intro he
      simp only [Addr.mk.injEq, and_true, true_and] at he
      exact e he
/-- Behind an append to one of the rows. -/
theorem RV.grow (h : RV B w b cs f) (h1 : 0 < cs.length) (hi : i < 4) (hg : w.grownBy w' (f i).v.ownBlock) (hr : r.at B w') (hv : r.v.ownBlock = (f i).v.ownBlock ∨ r.v.ownBlock = some w.heap.size) : RV B w' b cs (upd f i r) := by
  have hlt := h.lt h1
  refine ⟨⟨owned_kept h.1.1 hg hlt fun k hk e => h.2.1 i hi (e ▸ hk), h.1.2⟩, fun j hj => ?_, h.2.2.grow hi hg hr hv⟩
  unfold upd
  split
  · rcases hv with hv | hv
    · rw [hv]; exact h.2.1 i hi
    · rw [hv]; intro e; simp only [Option.some.injEq] at e; omega
  · exact h.2.1 j hj
/-- Behind a store of a slice into the variable. -/
theorem RV.put {x : Value} {j : Nat} (h : RV B w b cs f) (hj : j < cs.length) : RV B (w.setCell ⟨b, j, none⟩ x) b (cs.set j x) f := by
  have hgs : w.grownBy (w.setCell ⟨b, j, none⟩ x) (some b) := ⟨rfl, rfl, rfl, by simp, fun k _ hk => Below.heap_setCell _ _ _ _ (fun e => hk (by rw [e]))⟩
  exact ⟨⟨owned_set h.1.1 hj, h.1.2⟩, h.2.1, fun i hi => (h.2.2.1 i hi).kept hgs fun k hk e => h.2.1 i hi (hk.trans e.symm), h.2.2.2⟩
end
/-- A plate's cells and its rows. -/
def plC (P : Pl) (l : Lay) : List Value := [.int .i64 P.W, .int .i64 P.H, .slice l.p1 P.a.length l.c1, .slice l.p2 P.b.length l.c2, .slice l.p3 P.c.length l.c3, .slice l.p4 P.d.length l.c4]
def plF (P : Pl) (l : Lay) : Nat → Row
  | 0 => ⟨26, .slice l.p1 P.a.length l.c1, P.a.length, P.a.map (Value.float .f32)⟩
  | 1 => ⟨26, .slice l.p2 P.b.length l.c2, P.b.length, P.b.map (Value.float .f32)⟩
  | 2 => ⟨26, .slice l.p3 P.c.length l.c3, P.c.length, P.c.map (Value.float .f32)⟩
  | _ => ⟨4, .slice l.p4 P.d.length l.c4, P.d.length, P.d.map Value.bool⟩
/-- A plate in a variable of the call's own. -/
def PV (B : Nat) (w : World) (b : Nat) (P : Pl) (l : Lay) : Prop := (owned w b (plC P l) ∧ B ≤ b) ∧ (∀ i, i < 4 → (plF P l i).v.ownBlock ≠ some b) ∧ RS B w (plF P l)
section
variable {B : Nat} {w w' : World} {b : Nat} {P : Pl} {l : Lay}
theorem PV.rv {f : Nat → Row} (h : RV B w b (plC P l) f) (e : ∀ i, i < 4 → f i = plF P l i) : PV B w b P l := by
  refine ⟨h.1, fun i hi => by rw [← e i hi]; exact h.2.1 i hi, fun i hi => by rw [← e i hi]; exact h.2.2.1 i hi, fun i j hi hj => by rw [← e i hi, ← e j hj]; exact h.2.2.2 i j hi hj⟩
theorem PV.later (h : PV B w b P l) (hb : Below w.heap.size w w') : PV B w' b P l := RV.later (cs := plC P l) h hb
theorem PV.lt (h : PV B w b P l) : b < w.heap.size := World.block_lt_of_cell? _ _ (h.1.1 0 _ rfl).1
theorem PV.own (h : PV B w b P l) : P.own B w l := ⟨h.2.2.1 0 (by omega), h.2.2.1 1 (by omega), h.2.2.1 2 (by omega), h.2.2.1 3 (by omega)⟩
theorem PV.apart (h : PV B w b P l) : Ap l.p1 l.p2 ∧ Ap l.p1 l.p3 ∧ Ap l.p1 l.p4 ∧ Ap l.p2 l.p3 ∧ Ap l.p2 l.p4 ∧ Ap l.p3 l.p4 := by
  have k : ∀ i j, i < 4 → j < 4 → i ≠ j → ∀ (p q : Option Addr) (n m c d : Nat), (plF P l i).v = .slice p n c → (plF P l j).v = .slice q m d → Ap p q := by
    intro i j hi hj hij p q n m c d e1 e2 x y hx hy e
    refine h.2.2.2 i j hi hj hij x.block ?_ ?_
    · rw [e1, hx]; rfl
    · rw [e2, hy, e]; rfl
  exact ⟨k 0 1 (by omega) (by omega) (by omega) _ _ _ _ _ _ rfl rfl, k 0 2 (by omega) (by omega) (by omega) _ _ _ _ _ _ rfl rfl, k 0 3 (by omega) (by omega) (by omega) _ _ _ _ _ _ rfl rfl, k 1 2 (by omega) (by omega) (by omega) _ _ _ _ _ _ rfl rfl, k 1 3 (by omega) (by omega) (by omega) _ _ _ _ _ _ rfl rfl, k 2 3 (by omega) (by omega) (by omega) _ _ _ _ _ _ rfl rfl⟩
/-- Behind an append: the variable still has its old cells. -/
theorem PV.cells (h : PV B w b P l) {i : Nat} (hi : i < 4) (hg : w.grownBy w' (plF P l i).v.ownBlock) : owned w' b (plC P l) := owned_kept h.1.1 hg h.lt fun k hk e => h.2.1 i hi (e ▸ hk)
theorem PV.app1 (h : PV B w b P l) {x : Nat} {q : Option Addr} {c : Nat} (hg : w.grownBy w' (Value.slice l.p1 P.a.length l.c1).ownBlock) (hO : OF B w' (.slice q (P.a.length + 1) c) (P.a ++ [x])) (hv : (Value.slice q (P.a.length + 1) c).ownBlock = (Value.slice l.p1 P.a.length l.c1).ownBlock ∨ (Value.slice q (P.a.length + 1) c).ownBlock = some w.heap.size) :
    PV B (w'.setCell ⟨b, 2, none⟩ (.slice q (P.a.length + 1) c)) b { P with a := P.a ++ [x] } { l with p1 := q, c1 := c } := by
  have e : (P.a ++ [x]).length = P.a.length + 1 := by simp
  have h2 := RV.put (j := 2) (x := .slice q (P.a.length + 1) c) (RV.grow (i := 0) (r := ⟨26, .slice q (P.a.length + 1) c, P.a.length + 1, (P.a ++ [x]).map (Value.float .f32)⟩) (w' := w') (show RV B w b (plC P l) (plF P l) from h) (by simp [plC]) (by omega) hg (by unfold OF at hO; rw [e] at hO; exact hO) hv) (by simp [plC])
  refine PV.rv (f := upd (plF P l) 0 ⟨26, .slice q (P.a.length + 1) c, P.a.length + 1, (P.a ++ [x]).map (Value.float .f32)⟩) ?_ ?_
  · simp only [plC, e]; exact h2
  · intro i hi
    match i, hi with
    | 0, _ => simp [upd, plF]
    | 1, _ => rfl
    | 2, _ => rfl
    | 3, _ => rfl
theorem PV.app2 (h : PV B w b P l) {x : Nat} {q : Option Addr} {c : Nat} (hg : w.grownBy w' (Value.slice l.p2 P.b.length l.c2).ownBlock) (hO : OF B w' (.slice q (P.b.length + 1) c) (P.b ++ [x])) (hv : (Value.slice q (P.b.length + 1) c).ownBlock = (Value.slice l.p2 P.b.length l.c2).ownBlock ∨ (Value.slice q (P.b.length + 1) c).ownBlock = some w.heap.size) :
    PV B (w'.setCell ⟨b, 3, none⟩ (.slice q (P.b.length + 1) c)) b { P with b := P.b ++ [x] } { l with p2 := q, c2 := c } := by
  have e : (P.b ++ [x]).length = P.b.length + 1 := by simp
  have h2 := RV.put (j := 3) (x := .slice q (P.b.length + 1) c) (RV.grow (i := 1) (r := ⟨26, .slice q (P.b.length + 1) c, P.b.length + 1, (P.b ++ [x]).map (Value.float .f32)⟩) (w' := w') (show RV B w b (plC P l) (plF P l) from h) (by simp [plC]) (by omega) hg (by unfold OF at hO; rw [e] at hO; exact hO) hv) (by simp [plC])
  refine PV.rv (f := upd (plF P l) 1 ⟨26, .slice q (P.b.length + 1) c, P.b.length + 1, (P.b ++ [x]).map (Value.float .f32)⟩) ?_ ?_
  · simp only [plC, e]; exact h2
  · intro i hi
    match i, hi with
    | 0, _ => rfl
    | 1, _ => simp [upd, plF]
    | 2, _ => rfl
    | 3, _ => rfl
theorem PV.app3 (h : PV B w b P l) {x : Nat} {q : Option Addr} {c : Nat} (hg : w.grownBy w' (Value.slice l.p3 P.c.length l.c3).ownBlock) (hO : OF B w' (.slice q (P.c.length + 1) c) (P.c ++ [x])) (hv : (Value.slice q (P.c.length + 1) c).ownBlock = (Value.slice l.p3 P.c.length l.c3).ownBlock ∨ (Value.slice q (P.c.length + 1) c).ownBlock = some w.heap.size) :
    PV B (w'.setCell ⟨b, 4, none⟩ (.slice q (P.c.length + 1) c)) b { P with c := P.c ++ [x] } { l with p3 := q, c3 := c } := by
  have e : (P.c ++ [x]).length = P.c.length + 1 := by simp
  have h2 := RV.put (j := 4) (x := .slice q (P.c.length + 1) c) (RV.grow (i := 2) (r := ⟨26, .slice q (P.c.length + 1) c, P.c.length + 1, (P.c ++ [x]).map (Value.float .f32)⟩) (w' := w') (show RV B w b (plC P l) (plF P l) from h) (by simp [plC]) (by omega) hg (by unfold OF at hO; rw [e] at hO; exact hO) hv) (by simp [plC])
  refine PV.rv (f := upd (plF P l) 2 ⟨26, .slice q (P.c.length + 1) c, P.c.length + 1, (P.c ++ [x]).map (Value.float .f32)⟩) ?_ ?_
  · simp only [plC, e]; exact h2
  · intro i hi
    match i, hi with
    | 0, _ => rfl
    | 1, _ => rfl
    | 2, _ => simp [upd, plF]
    | 3, _ => rfl
theorem PV.app4 (h : PV B w b P l) {x : Bool} {q : Option Addr} {c : Nat} (hg : w.grownBy w' (Value.slice l.p4 P.d.length l.c4).ownBlock) (hO : OL B w' (.slice q (P.d.length + 1) c) (P.d ++ [x])) (hv : (Value.slice q (P.d.length + 1) c).ownBlock = (Value.slice l.p4 P.d.length l.c4).ownBlock ∨ (Value.slice q (P.d.length + 1) c).ownBlock = some w.heap.size) :
    PV B (w'.setCell ⟨b, 5, none⟩ (.slice q (P.d.length + 1) c)) b { P with d := P.d ++ [x] } { l with p4 := q, c4 := c } := by
  have e : (P.d ++ [x]).length = P.d.length + 1 := by simp
  have h2 := RV.put (j := 5) (x := .slice q (P.d.length + 1) c) (RV.grow (i := 3) (r := ⟨4, .slice q (P.d.length + 1) c, P.d.length + 1, (P.d ++ [x]).map Value.bool⟩) (w' := w') (show RV B w b (plC P l) (plF P l) from h) (by simp [plC]) (by omega) hg (by unfold OL at hO; rw [e] at hO; exact hO) hv) (by simp [plC])
  refine PV.rv (f := upd (plF P l) 3 ⟨4, .slice q (P.d.length + 1) c, P.d.length + 1, (P.d ++ [x]).map Value.bool⟩) ?_ ?_
  · simp only [plC, e]; exact h2
  · intro i hi
    match i, hi with
    | 0, _ => rfl
    | 1, _ => rfl
    | 2, _ => rfl
    | 3, _ => simp [upd, plF]
end
def nilLay : Lay := ⟨none, 0, none, 0, none, 0, none, 0⟩
theorem PV.new {B : Nat} {w : World} {b : Nat} {W H : Int} (h : owned w b (plC ⟨W, H, [], [], [], []⟩ nilLay)) (hb : B ≤ b) : PV B w b ⟨W, H, [], [], [], []⟩ nilLay := by
  have e : ∀ i, i < 4 → (plF ⟨W, H, [], [], [], []⟩ nilLay i).v.ownBlock = none := by
    intro i hi
    match i, hi with
    | 0, _ => rfl
    | 1, _ => rfl
    | 2, _ => rfl
    | 3, _ => rfl
  refine ⟨⟨h, hb⟩, fun i hi => (by rw [e i hi]; intro h; cases h), fun i hi => ?_, fun i j hi _ _ k hk => by rw [e i hi] at hk; cases hk⟩
  match i, hi with
  | 0, _ => exact World.ownsRow_nil _ _ _ _
  | 1, _ => exact World.ownsRow_nil _ _ _ _
  | 2, _ => exact World.ownsRow_nil _ _ _ _
  | 3, _ => exact World.ownsRow_nil _ _ _ _
/-- One bool appended: only the row itself turns. -/
theorem wpList_appQ {B : Nat} {xs : List Nat} {v : Value} {b r : Nat} {w : World} {ops : Array Oper} {rest : List Oper} {o : Oper} {a : Act} {Q : Exit → Act → World → Prop} (hg : o.guard = .none) {s x : Operand}
    (ho : o.op = .call { callee := .builtin .append, args := #[s, x], argTypes := #[22, 22] }) (hs : a.eval s = v) (hx : a.eval x = .slice (some ⟨b, 0, .none⟩) 1 1) (hO : OF B w v xs) (hc : w.cell? ⟨b, 0, .none⟩ = some (.float .f32 r)) (hn : xs.length < 1048576) (hB : B ≤ w.heap.size)
    (h : ∀ q c w', OF B w' (.slice q (xs.length + 1) c) (xs ++ [r]) → Below B w w' → w.grownBy w' v.ownBlock → ((Value.slice q (xs.length + 1) c).ownBlock = v.ownBlock ∨ (Value.slice q (xs.length + 1) c).ownBlock = some w.heap.size) → wpList Try.prog ops Q rest (a.put o.dst (.slice q (xs.length + 1) c)) w') : wpList Try.prog ops Q (o :: rest) a w := by
  obtain ⟨i0, hi, hz0, hz1, hz2⟩ := info_parts Try.infoF32
  refine wpList_append_own_at w hg s x 22 ho B 26 i0 (.float .f32 0) 1 4 Try.underlying22 hi hz0 hz1 hz2 rfl (by decide) v xs.length (xs.map (Value.float .f32)) hs hO ⟨b, 0, .none⟩ 1 1 [.float .f32 r] hx rfl ?_ ?_ (by unfold maxLen; omega) (by omega) hB ?_
  · intro j u hj
    match j, hj with
    | 0, hj => simp at hj; subst hj; simpa [Addr.add] using hc
    | j + 1, hj => simp at hj
  · intro u hu; simp at hu; subst hu; rfl
  · intro v' w' hown hgrow _ hblk
    have hO' : OF B w' v' (xs ++ [r]) := by
      unfold OF
      simpa using hown
    obtain ⟨q, c, rfl⟩ := hO'.shape
    simp only [List.length_append, List.length_cons, List.length_nil, Nat.zero_add] at hO' hblk ⊢
    exact h q c w' hO' ((Below.refl _ _).grown hgrow hB fun k hk => (OF.block hO k hk).1) hgrow hblk
theorem wpList_appQB {B : Nat} {xs : List Bool} {v : Value} {b : Nat} {r : Bool} {w : World} {ops : Array Oper} {rest : List Oper} {o : Oper} {a : Act} {Q : Exit → Act → World → Prop} (hg : o.guard = .none) {s x : Operand}
    (ho : o.op = .call { callee := .builtin .append, args := #[s, x], argTypes := #[23, 23] }) (hs : a.eval s = v) (hx : a.eval x = .slice (some ⟨b, 0, .none⟩) 1 1) (hO : OL B w v xs) (hc : w.cell? ⟨b, 0, .none⟩ = some (.bool r)) (hn : xs.length < 1048576) (hB : B ≤ w.heap.size)
    (h : ∀ q c w', OL B w' (.slice q (xs.length + 1) c) (xs ++ [r]) → Below B w w' → w.grownBy w' v.ownBlock → ((Value.slice q (xs.length + 1) c).ownBlock = v.ownBlock ∨ (Value.slice q (xs.length + 1) c).ownBlock = some w.heap.size) → wpList Try.prog ops Q rest (a.put o.dst (.slice q (xs.length + 1) c)) w') : wpList Try.prog ops Q (o :: rest) a w := by
  obtain ⟨i0, hi, hz0, hz1, hz2⟩ := info_parts Try.infoBool
  refine wpList_append_own_at w hg s x 23 ho B 4 i0 (.bool false) 1 1 Try.underlying23 hi hz0 hz1 hz2 rfl (by decide) v xs.length (xs.map Value.bool) hs hO ⟨b, 0, .none⟩ 1 1 [.bool r] hx rfl ?_ ?_ (by unfold maxLen; omega) (by omega) hB ?_
  · intro j u hj
    match j, hj with
    | 0, hj => simp at hj; subst hj; simpa [Addr.add] using hc
    | j + 1, hj => simp at hj
  · intro u hu; simp at hu; subst hu; rfl
  · intro v' w' hown hgrow _ hblk
    have hO' : OL B w' v' (xs ++ [r]) := by
      unfold OL
      simpa using hown
    obtain ⟨q, c, rfl⟩ := hO'.shape
    simp only [List.length_append, List.length_cons, List.length_nil, Nat.zero_add] at hO' hblk ⊢
    exact h q c w' hO' ((Below.refl _ _).grown hgrow hB fun k hk => (OL.block hO k hk).1) hgrow hblk
end Go.Proofs.Ytphamdlnnfionaa
set_option linter.unusedSimpArgs false
set_option linter.unusedVariables false
set_option linter.unusedSectionVars false
namespace Go.Proofs.Ytphamdlnnfionaa
open Go Go.RowKit
end Go.Proofs.Ytphamdlnnfionaa
set_option linter.unusedSimpArgs false
set_option linter.unusedVariables false
set_option linter.unusedSectionVars false
namespace Go.Proofs.Ytphamdlnnfionaa
open Go Go.RowKit
open Go.ChangeShapes Go.WideShapes Go.ChangeAt Go.RowKit Go.Joins
theorem OF.one {B n r : Nat} (w : World) (t : TypeId) (hn : n = w.heap.size) (hB : B ≤ w.heap.size) (ht : t = 26) : OF B (w.alloc (.cells #[.float .f32 r] t)) (.slice (some ⟨n, 0, none⟩) 1 1) [r] := by
  subst ht
  subst hn
  exact World.ownsRow_lit w #[.float .f32 r] 1 hB (by decide) (by simp)
end Go.Proofs.Ytphamdlnnfionaa
set_option linter.unusedSimpArgs false
set_option linter.unusedVariables false
set_option linter.unusedSectionVars false
namespace Go.Proofs.Ytphamdlnnfionaa
open Go Go.RowKit
open Go.ChangeShapes Go.WideShapes Go.ChangeAt Go.RowKit Go.Joins
/-- In a plan: a call that hands its last argument back, with 'true'. -/
def Clm.pass : Clm := ⟨1, fun x v => v = .tuple #[x.getLastD undef, .bool true], fun _ _ _ => True, fun _ => ⟨_, rfl⟩, fun _ _ _ _ _ _ => trivial, fun h => nomatch h⟩
theorem wpL_named {P : Program} {ops l : _} {Q : Exit → Act → World → Prop} {a : Act} {w : World} (h : ∀ W, W = w → wpList P ops Q l a W) : wpList P ops Q l a w := h w rfl
end Go.Proofs.Ytphamdlnnfionaa
set_option linter.unusedSimpArgs false
set_option linter.unusedVariables false
set_option linter.unusedSectionVars false
namespace Go.Proofs.Ytphamdlnnfionaa
open Go Go.RowKit
open Go.ChangeShapes Go.WideShapes Go.ChangeAt Go.RowKit Go.Joins
theorem PX.base {B S B' S' : Nat} {w : World} {P : Pl} {l : Lay} (h : PX B S w P l) (hB : B' ≤ B) (hS : S ≤ S') : PX B' S' w P l :=
  ⟨⟨h.1.1.base hB, fun k hk => Nat.lt_of_lt_of_le (h.1.2.1 k hk) hS, fun k hk => Nat.lt_of_lt_of_le (h.1.2.2.1 k hk) hS, fun k hk => Nat.lt_of_lt_of_le (h.1.2.2.2.1 k hk) hS, fun k hk => Nat.lt_of_lt_of_le (h.1.2.2.2.2 k hk) hS⟩, h.2⟩
theorem below_put {B : Nat} {w0 w : World} {b j : Nat} {x : Value} (h : Below B w0 w) (hB : B ≤ w.heap.size) (hb : B ≤ b) : Below B w0 (w.setCell ⟨b, j, none⟩ x) :=
  h.grown (row := some b) ⟨rfl, rfl, rfl, by simp, fun k _ hk => Below.heap_setCell _ _ _ _ (fun e => hk (by rw [e]))⟩ hB (fun kk hkk => by cases hkk; exact hb)
def plainPl (W H : Int) (t p k : Nat) : Pl := ⟨W, H, List.replicate k t, List.replicate k p, List.replicate k 0, List.replicate k false⟩
theorem plain_step (W H : Int) (t p k : Nat) : (⟨(plainPl W H t p k).W, (plainPl W H t p k).H, (plainPl W H t p k).a ++ [t], (plainPl W H t p k).b ++ [p], (plainPl W H t p k).c ++ [0], (plainPl W H t p k).d ++ [false]⟩ : Pl) = plainPl W H t p (k + 1) := by
  simp [plainPl, List.replicate_succ']
set_option maxHeartbeats 8000000 in
set_option maxRecDepth 100000 in
theorem l04Plain_any (W H : Int) (t p N : Nat) (w : World) (hN : W * H = (N : Int)) (hn : 1 ≤ N ∧ N ≤ 144) : Calls Try.prog 69 #[.int .i64 W, .int .i64 H, .float .f32 t, .float .f32 p] w (fun e w' => ∃ l, e = .returned (.agg #[.int .i64 (plainPl W H t p N).W, .int .i64 (plainPl W H t p N).H, .slice (l).p1 (plainPl W H t p N).a.length (l).c1, .slice (l).p2 (plainPl W H t p N).b.length (l).c2, .slice (l).p3 (plainPl W H t p N).c.length (l).c3, .slice (l).p4 (plainPl W H t p N).d.length (l).c4]) ∧ Below w.heap.size w w' ∧ PX w.heap.size w'.heap.size w' (plainPl W H t p N) l) := by
  have hwr : IntKind.i64.wrap (W * H) = (N : Int) := by rw [hN]; exact IntWalk.i64_in _ (by omega)
  have HN := Lib.hid hn
  clear hN
  go_enter Try.func69, Try.ntmps69
  go_wp2_with (first | (with_reducible refine at_list ?_; refine wpList_fop rfl rfl rfl rfl rfl ?_; intro r n hr0; have hr := hr0 _ _ (by first | with_reducible assumption | exact rfl) (by first | with_reducible assumption | exact rfl); clear hr0) | (with_reducible refine at_list ?_; refine wpList_neg rfl rfl rfl ?_; intro r hr0; have hr := hr0 _ (by first | with_reducible assumption | exact rfl); clear hr0) | (with_reducible refine at_list ?_; refine wpList_fop_g rfl rfl rfl rfl rfl ?_; intro r n hr0; have hr := hr0 _ _ (by first | with_reducible assumption | exact rfl) (by first | with_reducible assumption | exact rfl); clear hr0) | (with_reducible refine at_list ?_; refine wpList_wide_g rfl rfl Try.underlying26 Try.underlying54 rfl ?_; intro r n hr0; have hr := hr0 _ (by first | with_reducible assumption | exact rfl); clear hr0) | (with_reducible refine at_list ?_; refine wpList_wide rfl rfl rfl Try.underlying26 Try.underlying54 ?_; intro r n hr0; have hr := hr0 _ (by first | with_reducible assumption | exact rfl); clear hr0))
  refine wp_named ?_
  intro ws hws
  obtain ⟨b9, B, ⟨hb9, hwB, hBb⟩, HV, HR6, HBS⟩ : ∃ b9 B, (b9 = w.heap.size + 1 ∧ w.heap.size < B ∧ B ≤ b9) ∧ Hid (PV B ws b9 (plainPl W H t p 0) nilLay) ∧ Hid ((ws.cell? ⟨w.heap.size, 0, none⟩ = some (.int .i64 0) ∧ ws.cell? ⟨w.heap.size, 1, none⟩ = some (.int .i64 0) ∧ ws.cell? ⟨w.heap.size, 2, none⟩ = some (.slice none 0 0) ∧ ws.cell? ⟨w.heap.size, 3, none⟩ = some (.slice none 0 0) ∧ ws.cell? ⟨w.heap.size, 4, none⟩ = some (.slice none 0 0) ∧ ws.cell? ⟨w.heap.size, 5, none⟩ = some (.slice none 0 0)) ∧ ∀ o, ws.frozen? ⟨w.heap.size, o, none⟩ = false) ∧ Hid (Below w.heap.size w ws) := by
    refine ⟨w.heap.size + 1, w.heap.size + 1, ⟨rfl, by omega, Nat.le_refl _⟩, PV.new ?_ (Nat.le_refl _), ?_, ?_⟩
    · rw [hws]
      intro j x hj
      unfold plC at hj
      match j, hj with
      | 0, hj => simp at hj; subst hj; exact ⟨by go_simp, by go_simp⟩
      | 1, hj => simp at hj; subst hj; exact ⟨by go_simp, by go_simp⟩
      | 2, hj => simp [nilLay] at hj; subst hj; exact ⟨by go_simp, by go_simp⟩
      | 3, hj => simp [nilLay] at hj; subst hj; exact ⟨by go_simp, by go_simp⟩
      | 4, hj => simp [nilLay] at hj; subst hj; exact ⟨by go_simp, by go_simp⟩
      | 5, hj => simp [nilLay] at hj; subst hj; exact ⟨by go_simp, by go_simp⟩
      | j + 6, hj => simp at hj
    · rw [hws]; exact ⟨⟨by go_simp, by go_simp, by go_simp, by go_simp, by go_simp, by go_simp⟩, fun o => by go_simp⟩
    · rw [hws]; show Below _ _ _; (repeat (first | (with_reducible exact Below.refl _ _) | (with_reducible assumption) | (with_reducible refine below_then ?_ (by assumption)) | (with_reducible refine Below.trans ?_ (by assumption)) | (with_reducible refine below_drewN ?_ _) | (with_reducible apply Below.drew) | (with_reducible refine below_alloc ?_ _) | refine Below.setCell ?_ (by first | (simp; done) | (simp; omega)) _))
  rw [← hb9]
  clear hws hb9
  try clear hb hk hT hsz
  go_loopw [10] (fun q10 wr => ∃ (k : Nat) (l : Lay), k ≤ N ∧ q10 = .int .i64 (k : Int) ∧ Hid (PV B wr b9 (plainPl W H t p k) l) ∧ Below B ws wr) (fun q10 _ => N - (intOf q10).toNat)
  case atStart => exact ⟨0, nilLay, Nat.zero_le _, rfl, HV.out, Below.refl _ _⟩
  case round =>
    obtain ⟨k, l, hkN, rfl, HPV, hB⟩ := hrel
    have hzr := hB.size
    obtain ⟨P, hP⟩ : ∃ P, P = plainPl W H t p k := ⟨_, rfl⟩
    have HP := Lib.hid hP
    rw [← hP] at HPV
    have HBW := Lib.hid hB
    by_cases hlt : k < N
    · have hlti : (k : Int) < (N : Int) := by omega
      have hlen : Hid (P.a.length = k ∧ P.b.length = k ∧ P.c.length = k ∧ P.d.length = k) := by show _ ∧ _; rw [hP]; simp [plainPl]
      have HKN : Hid (k ≤ 144) := by have := HN.out; show _ ≤ _; omega
      clear hP hB hzr
      have HZB : Hid (B ≤ ws.heap.size) := by have h1 := PV.lt HV.out; show _ ≤ _; omega
      have g0 := (HPV.out.1.1 0 _ rfl).1
      have f0 := (HPV.out.1.1 0 _ rfl).2
      have g1 := (HPV.out.1.1 1 _ rfl).1
      have f1 := (HPV.out.1.1 1 _ rfl).2
      have g2 := (HPV.out.1.1 2 _ rfl).1
      have f2 := (HPV.out.1.1 2 _ rfl).2
      have g3 := (HPV.out.1.1 3 _ rfl).1
      have f3 := (HPV.out.1.1 3 _ rfl).2
      have g4 := (HPV.out.1.1 4 _ rfl).1
      have f4 := (HPV.out.1.1 4 _ rfl).2
      have g5 := (HPV.out.1.1 5 _ rfl).1
      have f5 := (HPV.out.1.1 5 _ rfl).2
      have hb9z : b9 < wr.heap.size := PV.lt HPV.out
      go_wp2_with (first | (with_reducible refine at_list ?_; refine wpList_fop rfl rfl rfl rfl rfl ?_; intro r n hr0; have hr := hr0 _ _ (by first | with_reducible assumption | exact rfl) (by first | with_reducible assumption | exact rfl); clear hr0) | (with_reducible refine at_list ?_; refine wpList_neg rfl rfl rfl ?_; intro r hr0; have hr := hr0 _ (by first | with_reducible assumption | exact rfl); clear hr0) | (with_reducible refine at_list ?_; refine wpList_fop_g rfl rfl rfl rfl rfl ?_; intro r n hr0; have hr := hr0 _ _ (by first | with_reducible assumption | exact rfl) (by first | with_reducible assumption | exact rfl); clear hr0) | (with_reducible refine at_list ?_; refine wpList_wide_g rfl rfl Try.underlying26 Try.underlying54 rfl ?_; intro r n hr0; have hr := hr0 _ (by first | with_reducible assumption | exact rfl); clear hr0) | (with_reducible refine at_list ?_; refine wpList_wide rfl rfl rfl Try.underlying26 Try.underlying54 ?_; intro r n hr0; have hr := hr0 _ (by first | with_reducible assumption | exact rfl); clear hr0) | (at_builtin; refine stop_here ?_))
      unfold Stop
      refine wpL_named ?_
      intro w11 hw
      have hal : Below (wr).heap.size wr w11 := by rw [hw]; exact (Below.refl _ _).alloc (Nat.le_refl _) _
      have HVa := Lib.hid (PV.later HPV.out hal)
      have hc : w11.cell? ⟨(wr).heap.size, 0, none⟩ = some (.float .f32 t) := by rw [hw]; go_simp
      have HBa : Hid (Below B ws w11) := HBW.out.trans (hal.mono (Nat.le_trans HZB.out HBW.out.size))
      have HZa : Hid (B ≤ w11.heap.size) := Nat.le_trans HZB.out HBa.out.size
      clear hw hal g0 f0 g1 f1 g2 f2 g3 f3 g4 f4 g5 f5
      apply wpList_appQ (B := B) (xs := P.a) (v := .slice l.p1 P.a.length l.c1) (r := t)
      case hg => rfl
      case ho => rfl
      case hs => rfl
      case hx => rfl
      case hO => exact (PV.own HVa.out).1
      case hc => first | exact hc | (simpa using hc)
      case hn => have h8 := hlen.out; have h9 := HKN.out; omega
      case hB => exact HZa.out
      intro q1 c1 w21 hO hB2 hg hv
      have HV1 := Lib.hid (PV.app1 HVa.out hg hO hv)
      have hcl := PV.cells HVa.out (i := 0) (by omega) hg
      have HCL := Lib.hid hcl
      have HBW1 : Hid (Below B ws (w21.setCell ⟨b9, 2, none⟩ (.slice q1 (P.a.length + 1) c1))) := below_put (HBa.out.trans hB2) (Nat.le_trans HZa.out hB2.size) hBb
      have hb9z : b9 < w21.heap.size := Nat.lt_of_lt_of_le (PV.lt HVa.out) hB2.size
      clear hO hB2 hg hv hcl hc HVa HBa HZa
      have g0 := (HCL.out 0 _ rfl).1
      have f0 := (HCL.out 0 _ rfl).2
      have g1 := (HCL.out 1 _ rfl).1
      have f1 := (HCL.out 1 _ rfl).2
      have g2 := (HCL.out 2 _ rfl).1
      have f2 := (HCL.out 2 _ rfl).2
      have g3 := (HCL.out 3 _ rfl).1
      have f3 := (HCL.out 3 _ rfl).2
      have g4 := (HCL.out 4 _ rfl).1
      have f4 := (HCL.out 4 _ rfl).2
      have g5 := (HCL.out 5 _ rfl).1
      have f5 := (HCL.out 5 _ rfl).2
      go_wp2_with (first | (with_reducible refine at_list ?_; refine wpList_fop rfl rfl rfl rfl rfl ?_; intro r n hr0; have hr := hr0 _ _ (by first | with_reducible assumption | exact rfl) (by first | with_reducible assumption | exact rfl); clear hr0) | (with_reducible refine at_list ?_; refine wpList_neg rfl rfl rfl ?_; intro r hr0; have hr := hr0 _ (by first | with_reducible assumption | exact rfl); clear hr0) | (with_reducible refine at_list ?_; refine wpList_fop_g rfl rfl rfl rfl rfl ?_; intro r n hr0; have hr := hr0 _ _ (by first | with_reducible assumption | exact rfl) (by first | with_reducible assumption | exact rfl); clear hr0) | (with_reducible refine at_list ?_; refine wpList_wide_g rfl rfl Try.underlying26 Try.underlying54 rfl ?_; intro r n hr0; have hr := hr0 _ (by first | with_reducible assumption | exact rfl); clear hr0) | (with_reducible refine at_list ?_; refine wpList_wide rfl rfl rfl Try.underlying26 Try.underlying54 ?_; intro r n hr0; have hr := hr0 _ (by first | with_reducible assumption | exact rfl); clear hr0) | (at_builtin; refine stop_here ?_))
      unfold Stop
      refine wpL_named ?_
      intro w12 hw
      have hal : Below ((w21.setCell ⟨b9, 2, none⟩ (.slice q1 (P.a.length + 1) c1))).heap.size (w21.setCell ⟨b9, 2, none⟩ (.slice q1 (P.a.length + 1) c1)) w12 := by rw [hw]; exact (Below.refl _ _).alloc (Nat.le_refl _) _
      have HVa := Lib.hid (PV.later HV1.out hal)
      have hc : w12.cell? ⟨((w21.setCell ⟨b9, 2, none⟩ (.slice q1 (P.a.length + 1) c1))).heap.size, 0, none⟩ = some (.float .f32 p) := by rw [hw]; go_simp
      have HBa : Hid (Below B ws w12) := HBW1.out.trans (hal.mono (Nat.le_trans HZB.out HBW1.out.size))
      have HZa : Hid (B ≤ w12.heap.size) := Nat.le_trans HZB.out HBa.out.size
      clear hw hal g0 f0 g1 f1 g2 f2 g3 f3 g4 f4 g5 f5
      apply wpList_appQ (B := B) (xs := P.b) (v := .slice l.p2 P.b.length l.c2) (r := p)
      case hg => rfl
      case ho => rfl
      case hs => rfl
      case hx => rfl
      case hO => exact (PV.own HVa.out).2.1
      case hc => first | exact hc | (simpa using hc)
      case hn => have h8 := hlen.out; have h9 := HKN.out; omega
      case hB => exact HZa.out
      intro q2 c2 w22 hO hB2 hg hv
      have HV2 := Lib.hid (PV.app2 HVa.out hg hO hv)
      have hcl := PV.cells HVa.out (i := 1) (by omega) hg
      have HCL := Lib.hid hcl
      have HBW2 : Hid (Below B ws (w22.setCell ⟨b9, 3, none⟩ (.slice q2 (P.b.length + 1) c2))) := below_put (HBa.out.trans hB2) (Nat.le_trans HZa.out hB2.size) hBb
      have hb9z : b9 < w22.heap.size := Nat.lt_of_lt_of_le (PV.lt HVa.out) hB2.size
      clear hO hB2 hg hv hcl hc HVa HBa HZa
      have g0 := (HCL.out 0 _ rfl).1
      have f0 := (HCL.out 0 _ rfl).2
      have g1 := (HCL.out 1 _ rfl).1
      have f1 := (HCL.out 1 _ rfl).2
      have g2 := (HCL.out 2 _ rfl).1
      have f2 := (HCL.out 2 _ rfl).2
      have g3 := (HCL.out 3 _ rfl).1
      have f3 := (HCL.out 3 _ rfl).2
      have g4 := (HCL.out 4 _ rfl).1
      have f4 := (HCL.out 4 _ rfl).2
      have g5 := (HCL.out 5 _ rfl).1
      have f5 := (HCL.out 5 _ rfl).2
      go_wp2_with (first | (with_reducible refine at_list ?_; refine wpList_fop rfl rfl rfl rfl rfl ?_; intro r n hr0; have hr := hr0 _ _ (by first | with_reducible assumption | exact rfl) (by first | with_reducible assumption | exact rfl); clear hr0) | (with_reducible refine at_list ?_; refine wpList_neg rfl rfl rfl ?_; intro r hr0; have hr := hr0 _ (by first | with_reducible assumption | exact rfl); clear hr0) | (with_reducible refine at_list ?_; refine wpList_fop_g rfl rfl rfl rfl rfl ?_; intro r n hr0; have hr := hr0 _ _ (by first | with_reducible assumption | exact rfl) (by first | with_reducible assumption | exact rfl); clear hr0) | (with_reducible refine at_list ?_; refine wpList_wide_g rfl rfl Try.underlying26 Try.underlying54 rfl ?_; intro r n hr0; have hr := hr0 _ (by first | with_reducible assumption | exact rfl); clear hr0) | (with_reducible refine at_list ?_; refine wpList_wide rfl rfl rfl Try.underlying26 Try.underlying54 ?_; intro r n hr0; have hr := hr0 _ (by first | with_reducible assumption | exact rfl); clear hr0) | (at_builtin; refine stop_here ?_))
      unfold Stop
      refine wpL_named ?_
      intro w13 hw
      have hal : Below ((w22.setCell ⟨b9, 3, none⟩ (.slice q2 (P.b.length + 1) c2))).heap.size (w22.setCell ⟨b9, 3, none⟩ (.slice q2 (P.b.length + 1) c2)) w13 := by rw [hw]; exact (Below.refl _ _).alloc (Nat.le_refl _) _
      have HVa := Lib.hid (PV.later HV2.out hal)
      have hc : w13.cell? ⟨((w22.setCell ⟨b9, 3, none⟩ (.slice q2 (P.b.length + 1) c2))).heap.size, 0, none⟩ = some (.float .f32 0) := by rw [hw]; go_simp
      have HBa : Hid (Below B ws w13) := HBW2.out.trans (hal.mono (Nat.le_trans HZB.out HBW2.out.size))
      have HZa : Hid (B ≤ w13.heap.size) := Nat.le_trans HZB.out HBa.out.size
      clear hw hal g0 f0 g1 f1 g2 f2 g3 f3 g4 f4 g5 f5
      apply wpList_appQ (B := B) (xs := P.c) (v := .slice l.p3 P.c.length l.c3) (r := 0)
      case hg => rfl
      case ho => rfl
      case hs => rfl
      case hx => rfl
      case hO => exact (PV.own HVa.out).2.2.1
      case hc => first | exact hc | (simpa using hc)
      case hn => have h8 := hlen.out; have h9 := HKN.out; omega
      case hB => exact HZa.out
      intro q3 c3 w23 hO hB2 hg hv
      have HV3 := Lib.hid (PV.app3 HVa.out hg hO hv)
      have hcl := PV.cells HVa.out (i := 2) (by omega) hg
      have HCL := Lib.hid hcl
      have HBW3 : Hid (Below B ws (w23.setCell ⟨b9, 4, none⟩ (.slice q3 (P.c.length + 1) c3))) := below_put (HBa.out.trans hB2) (Nat.le_trans HZa.out hB2.size) hBb
      have hb9z : b9 < w23.heap.size := Nat.lt_of_lt_of_le (PV.lt HVa.out) hB2.size
      clear hO hB2 hg hv hcl hc HVa HBa HZa
      have g0 := (HCL.out 0 _ rfl).1
      have f0 := (HCL.out 0 _ rfl).2
      have g1 := (HCL.out 1 _ rfl).1
      have f1 := (HCL.out 1 _ rfl).2
      have g2 := (HCL.out 2 _ rfl).1
      have f2 := (HCL.out 2 _ rfl).2
      have g3 := (HCL.out 3 _ rfl).1
      have f3 := (HCL.out 3 _ rfl).2
      have g4 := (HCL.out 4 _ rfl).1
      have f4 := (HCL.out 4 _ rfl).2
      have g5 := (HCL.out 5 _ rfl).1
      have f5 := (HCL.out 5 _ rfl).2
      go_wp2_with (first | (with_reducible refine at_list ?_; refine wpList_fop rfl rfl rfl rfl rfl ?_; intro r n hr0; have hr := hr0 _ _ (by first | with_reducible assumption | exact rfl) (by first | with_reducible assumption | exact rfl); clear hr0) | (with_reducible refine at_list ?_; refine wpList_neg rfl rfl rfl ?_; intro r hr0; have hr := hr0 _ (by first | with_reducible assumption | exact rfl); clear hr0) | (with_reducible refine at_list ?_; refine wpList_fop_g rfl rfl rfl rfl rfl ?_; intro r n hr0; have hr := hr0 _ _ (by first | with_reducible assumption | exact rfl) (by first | with_reducible assumption | exact rfl); clear hr0) | (with_reducible refine at_list ?_; refine wpList_wide_g rfl rfl Try.underlying26 Try.underlying54 rfl ?_; intro r n hr0; have hr := hr0 _ (by first | with_reducible assumption | exact rfl); clear hr0) | (with_reducible refine at_list ?_; refine wpList_wide rfl rfl rfl Try.underlying26 Try.underlying54 ?_; intro r n hr0; have hr := hr0 _ (by first | with_reducible assumption | exact rfl); clear hr0) | (at_builtin; refine stop_here ?_))
      unfold Stop
      refine wpL_named ?_
      intro w14 hw
      have hal : Below ((w23.setCell ⟨b9, 4, none⟩ (.slice q3 (P.c.length + 1) c3))).heap.size (w23.setCell ⟨b9, 4, none⟩ (.slice q3 (P.c.length + 1) c3)) w14 := by rw [hw]; exact (Below.refl _ _).alloc (Nat.le_refl _) _
      have HVa := Lib.hid (PV.later HV3.out hal)
      have hc : w14.cell? ⟨((w23.setCell ⟨b9, 4, none⟩ (.slice q3 (P.c.length + 1) c3))).heap.size, 0, none⟩ = some (.bool false) := by rw [hw]; go_simp
      have HBa : Hid (Below B ws w14) := HBW3.out.trans (hal.mono (Nat.le_trans HZB.out HBW3.out.size))
      have HZa : Hid (B ≤ w14.heap.size) := Nat.le_trans HZB.out HBa.out.size
      clear hw hal g0 f0 g1 f1 g2 f2 g3 f3 g4 f4 g5 f5
      apply wpList_appQB (B := B) (xs := P.d) (v := .slice l.p4 P.d.length l.c4) (r := false)
      case hg => rfl
      case ho => rfl
      case hs => rfl
      case hx => rfl
      case hO => exact (PV.own HVa.out).2.2.2
      case hc => first | exact hc | (simpa using hc)
      case hn => have h8 := hlen.out; have h9 := HKN.out; omega
      case hB => exact HZa.out
      intro q4 c4 w24 hO hB2 hg hv
      have HV4 := Lib.hid (PV.app4 HVa.out hg hO hv)
      have hcl := PV.cells HVa.out (i := 3) (by omega) hg
      have HCL := Lib.hid hcl
      have HBW4 : Hid (Below B ws (w24.setCell ⟨b9, 5, none⟩ (.slice q4 (P.d.length + 1) c4))) := below_put (HBa.out.trans hB2) (Nat.le_trans HZa.out hB2.size) hBb
      have hb9z : b9 < w24.heap.size := Nat.lt_of_lt_of_le (PV.lt HVa.out) hB2.size
      clear hO hB2 hg hv hcl hc HVa HBa HZa
      have g0 := (HCL.out 0 _ rfl).1
      have f0 := (HCL.out 0 _ rfl).2
      have g1 := (HCL.out 1 _ rfl).1
      have f1 := (HCL.out 1 _ rfl).2
      have g2 := (HCL.out 2 _ rfl).1
      have f2 := (HCL.out 2 _ rfl).2
      have g3 := (HCL.out 3 _ rfl).1
      have f3 := (HCL.out 3 _ rfl).2
      have g4 := (HCL.out 4 _ rfl).1
      have f4 := (HCL.out 4 _ rfl).2
      have g5 := (HCL.out 5 _ rfl).1
      have f5 := (HCL.out 5 _ rfl).2
      go_wp2_with (first | (with_reducible refine at_list ?_; refine wpList_fop rfl rfl rfl rfl rfl ?_; intro r n hr0; have hr := hr0 _ _ (by first | with_reducible assumption | exact rfl) (by first | with_reducible assumption | exact rfl); clear hr0) | (with_reducible refine at_list ?_; refine wpList_neg rfl rfl rfl ?_; intro r hr0; have hr := hr0 _ (by first | with_reducible assumption | exact rfl); clear hr0) | (with_reducible refine at_list ?_; refine wpList_fop_g rfl rfl rfl rfl rfl ?_; intro r n hr0; have hr := hr0 _ _ (by first | with_reducible assumption | exact rfl) (by first | with_reducible assumption | exact rfl); clear hr0) | (with_reducible refine at_list ?_; refine wpList_wide_g rfl rfl Try.underlying26 Try.underlying54 rfl ?_; intro r n hr0; have hr := hr0 _ (by first | with_reducible assumption | exact rfl); clear hr0) | (with_reducible refine at_list ?_; refine wpList_wide rfl rfl rfl Try.underlying26 Try.underlying54 ?_; intro r n hr0; have hr := hr0 _ (by first | with_reducible assumption | exact rfl); clear hr0))
      have HE : Hid ((⟨P.W, P.H, P.a ++ [t], P.b ++ [p], P.c ++ [0], P.d ++ [false]⟩ : Pl) = plainPl W H t p (k + 1)) := by show _ = _; rw [HP.out]; exact plain_step W H t p k
      have HPV9 : Hid (PV B (w24.setCell ⟨b9, 5, none⟩ (.slice q4 (P.d.length + 1) c4)) b9 (plainPl W H t p (k + 1)) ⟨q1, c1, q2, c2, q3, c3, q4, c4⟩) := by show PV _ _ _ _ _; rw [← HE.out]; exact HV4.out
      go_roundw
      case rel => exact ⟨k + 1, _, by omega, by go_num, HPV9.out, HBW4.out⟩
      case measure => simp [intOf]; omega
      all_goals first | kernel_rfl | rfl
    · have hlti : ¬ (k : Int) < (N : Int) := by omega
      have hke : k = N := by omega
      subst hke
      rw [hP] at HPV
      obtain ⟨⟨r0, r1, r2, r3, r4, r5⟩, rf⟩ := HR6.out
      have r0 := (hB.cell (p := ⟨w.heap.size, 0, none⟩) hwB).trans r0
      have r1 := (hB.cell (p := ⟨w.heap.size, 1, none⟩) hwB).trans r1
      have r2 := (hB.cell (p := ⟨w.heap.size, 2, none⟩) hwB).trans r2
      have r3 := (hB.cell (p := ⟨w.heap.size, 3, none⟩) hwB).trans r3
      have r4 := (hB.cell (p := ⟨w.heap.size, 4, none⟩) hwB).trans r4
      have r5 := (hB.cell (p := ⟨w.heap.size, 5, none⟩) hwB).trans r5
      have rf : ∀ o, wr.frozen? ⟨w.heap.size, o, none⟩ = false := fun o => (hB.frozen (p := ⟨w.heap.size, o, none⟩) hwB).trans (rf o)
      have hPV := HPV.out
      have g0 := (HPV.out.1.1 0 _ rfl).1
      have f0 := (HPV.out.1.1 0 _ rfl).2
      have g1 := (HPV.out.1.1 1 _ rfl).1
      have f1 := (HPV.out.1.1 1 _ rfl).2
      have g2 := (HPV.out.1.1 2 _ rfl).1
      have f2 := (HPV.out.1.1 2 _ rfl).2
      have g3 := (HPV.out.1.1 3 _ rfl).1
      have f3 := (HPV.out.1.1 3 _ rfl).2
      have g4 := (HPV.out.1.1 4 _ rfl).1
      have f4 := (HPV.out.1.1 4 _ rfl).2
      have g5 := (HPV.out.1.1 5 _ rfl).1
      have f5 := (HPV.out.1.1 5 _ rfl).2
      have hb9z : b9 < wr.heap.size := PV.lt HPV.out
      have hT : Trk wr [w.heap.size, b9] := ((Trk.nil wr).more hb9z).more (by omega)
      have hBr : Below w.heap.size w wr := HBS.out.trans (HBW.out.mono (by omega))
      have HX : Hid (PX w.heap.size (wr.setCells w.heap.size 0 (plC (plainPl W H t p k) l)).heap.size (wr.setCells w.heap.size 0 (plC (plainPl W H t p k) l)) (plainPl W H t p k) l) := by
        have hgs := grown_setCells w.heap.size (plC (plainPl W H t p k) l) 0 wr
        obtain ⟨a1, a2, a3, a4, a5, a6⟩ := HPV.out.apart
        obtain ⟨o1, o2, o3, o4⟩ := HPV.out.own
        have ne : ∀ {v : Value} {xs : List Nat}, OF B wr v xs → v.ownBlock = none ∨ v.ownBlock ≠ some w.heap.size := fun {v xs} ho => by
          cases hu : v.ownBlock with
          | none => exact .inl rfl
          | some kk => exact .inr fun e => by have h9 := (ho.block kk hu).1; cases e; omega
        have ne4 : (Value.slice l.p4 (plainPl W H t p k).d.length l.c4).ownBlock = none ∨ (Value.slice l.p4 (plainPl W H t p k).d.length l.c4).ownBlock ≠ some w.heap.size := by
          cases hu : (Value.slice l.p4 (plainPl W H t p k).d.length l.c4).ownBlock with
          | none => exact .inl rfl
          | some kk => exact .inr fun e => by have h9 := (o4.block kk hu).1; cases e; omega
        exact PX.mk' (Pl.own.base ⟨o1.kept hgs (ne o1), o2.kept hgs (ne o2), o3.kept hgs (ne o3), o4.kept hgs ne4⟩ (by omega)) a1 a2 a3 a4 a5 a6
      clear hPV hB hP
      go_wp2_with (first | (with_reducible refine at_list ?_; refine wpList_fop rfl rfl rfl rfl rfl ?_; intro r n hr0; have hr := hr0 _ _ (by first | with_reducible assumption | exact rfl) (by first | with_reducible assumption | exact rfl); clear hr0) | (with_reducible refine at_list ?_; refine wpList_neg rfl rfl rfl ?_; intro r hr0; have hr := hr0 _ (by first | with_reducible assumption | exact rfl); clear hr0) | (with_reducible refine at_list ?_; refine wpList_fop_g rfl rfl rfl rfl rfl ?_; intro r n hr0; have hr := hr0 _ _ (by first | with_reducible assumption | exact rfl) (by first | with_reducible assumption | exact rfl); clear hr0) | (with_reducible refine at_list ?_; refine wpList_wide_g rfl rfl Try.underlying26 Try.underlying54 rfl ?_; intro r n hr0; have hr := hr0 _ (by first | with_reducible assumption | exact rfl); clear hr0) | (with_reducible refine at_list ?_; refine wpList_wide rfl rfl rfl Try.underlying26 Try.underlying54 ?_; intro r n hr0; have hr := hr0 _ (by first | with_reducible assumption | exact rfl); clear hr0))
      refine bodyPost_ret (v := .agg #[.int .i64 (plainPl W H t p k).W, .int .i64 (plainPl W H t p k).H, .slice l.p1 (plainPl W H t p k).a.length l.c1, .slice l.p2 (plainPl W H t p k).b.length l.c2, .slice l.p3 (plainPl W H t p k).c.length l.c3, .slice l.p4 (plainPl W H t p k).d.length l.c4]) (by simp [results, Try.results69, go_sem, *]) rfl ?_
      exact ⟨l, rfl, by (repeat (first | (with_reducible exact Below.refl _ _) | (with_reducible assumption) | (with_reducible refine below_then ?_ (by assumption)) | (with_reducible refine Below.trans ?_ (by assumption)) | (with_reducible refine below_drewN ?_ _) | (with_reducible apply Below.drew) | (with_reducible refine below_alloc ?_ _) | refine Below.setCell ?_ (by first | (simp; done) | (simp; omega)) _)), HX.out⟩
end Go.Proofs.Ytphamdlnnfionaa
set_option linter.unusedSimpArgs false
set_option linter.unusedVariables false
set_option linter.unusedSectionVars false
namespace Go.Proofs.Ytphamdlnnfionaa
open Go Go.RowKit
/-- A slice of bytes, in blocks ahead of B. -/
def BY (B : Nat) (w : World) (p : Option Addr) (n c : Nat) : Prop := (n ≤ c ∧ c ≤ 9223372036854775807) ∧ ∀ i, i < n → ∃ b o x, p = some ⟨b, o, none⟩ ∧ b < B ∧ w.cell? ⟨b, o + i, none⟩ = some (.int .u8 x) ∧ 0 ≤ x ∧ x ≤ 255
theorem BY.later {B C : Nat} {w w' : World} {p : Option Addr} {n c : Nat} (h : BY B w p n c) (hb : Below C w w') (hB : B ≤ C) : BY B w' p n c :=
  ⟨h.1, fun i hi => by
    obtain ⟨b, o, x, e, h1, h2, h3⟩ := h.2 i hi
    exact ⟨b, o, x, e, h1, (hb.cell (p := ⟨b, o + i, none⟩) (show b < C by omega)).trans h2, h3⟩⟩
theorem BY.mono {B C : Nat} {w : World} {p : Option Addr} {n c : Nat} (h : BY B w p n c) (hB : B ≤ C) : BY C w p n c :=
  ⟨h.1, fun i hi => by
    obtain ⟨b, o, x, e, h1, h2⟩ := h.2 i hi
    exact ⟨b, o, x, e, by omega, h2⟩⟩
/-- A source of draws in block b, after at most K draws. -/
def SrcAt (w : World) (b K : Nat) : Prop := ∃ (p : Option Addr) (n c : Nat) (k s : Int), (w.cell? ⟨b, 0, none⟩ = some (.slice p n c) ∧ w.cell? ⟨b, 1, none⟩ = some (.int .i64 k) ∧ w.cell? ⟨b, 2, none⟩ = some (.int .u64 s)) ∧ (w.frozen? ⟨b, 1, none⟩ = false ∧ w.frozen? ⟨b, 2, none⟩ = false) ∧ BY b w p n c ∧ n ≤ 1048576 ∧ (0 ≤ k ∧ k ≤ K) ∧ 0 ≤ s ∧ s < 18446744073709551616
theorem SrcAt.later {w w' : World} {b K B : Nat} (h : SrcAt w b K) (hb : Below B w w') (hB : b < B) : SrcAt w' b K := by
  obtain ⟨p, n, c, k, s, ⟨h1, h2, h3⟩, ⟨h4, h5⟩, h6, h7⟩ := h
  exact ⟨p, n, c, k, s, ⟨(hb.cell hB).trans h1, (hb.cell hB).trans h2, (hb.cell hB).trans h3⟩, ⟨(hb.frozen hB).trans h4, (hb.frozen hB).trans h5⟩, h6.later hb (by omega), h7⟩
theorem SrcAt.mono {w : World} {b K L : Nat} (h : SrcAt w b K) (hL : K ≤ L) : SrcAt w b L := by
  obtain ⟨p, n, c, k, s, h1, h2, h3, h4, ⟨h5, h6⟩, h7⟩ := h
  exact ⟨p, n, c, k, s, h1, h2, h3, h4, ⟨h5, by omega⟩, h7⟩
/-- What a draw leaves. -/
def SP (w : World) (b K : Nat) (lo hi : Int) (e : Ending) (w' : World) : Prop := ∃ r, e = .returned (.int .i64 r) ∧ (lo ≤ r ∧ r ≤ hi) ∧ Turn b (b + 1) w w' ∧ w'.heap.size = w.heap.size ∧ SrcAt w' b K
theorem src_next {w : World} {b K n c : Nat} {p : Option Addr} {k s : Int} (c0 : w.cell? ⟨b, 0, none⟩ = some (.slice p n c)) (c1 : w.cell? ⟨b, 1, none⟩ = some (.int .i64 k)) (c2 : w.cell? ⟨b, 2, none⟩ = some (.int .u64 s)) (f1 : w.frozen? ⟨b, 1, none⟩ = false) (f2 : w.frozen? ⟨b, 2, none⟩ = false) (hb : BY b w p n c) (hn : n ≤ 1048576) (hk : 0 ≤ k ∧ k ≤ K) (x : Int) (m : Nat) :
    Turn b (b + 1) w (((w.setCell ⟨b, 1, none⟩ (.int .i64 (k + 1))).setCell ⟨b, 2, none⟩ (.int .u64 (IntKind.u64.wrap x))).drewN m) ∧ (((w.setCell ⟨b, 1, none⟩ (.int .i64 (k + 1))).setCell ⟨b, 2, none⟩ (.int .u64 (IntKind.u64.wrap x))).drewN m).heap.size = w.heap.size ∧ SrcAt (((w.setCell ⟨b, 1, none⟩ (.int .i64 (k + 1))).setCell ⟨b, 2, none⟩ (.int .u64 (IntKind.u64.wrap x))).drewN m) b (K + 1) := by
  have hgt : ∀ (w' : World) (j : Nat) (v : Value), w'.grownBy (w'.setCell ⟨b, j, none⟩ v) (some b) := fun w' j v => ⟨rfl, rfl, rfl, by simp, fun i _ hi => Below.heap_setCell _ _ _ _ (fun e => hi (by rw [e]))⟩
  have h1 : Turn b (b + 1) w ((w.setCell ⟨b, 1, none⟩ (.int .i64 (k + 1))).setCell ⟨b, 2, none⟩ (.int .u64 (IntKind.u64.wrap x))) := by
    have a := hgt w 1 (.int .i64 (k + 1))
    have d := hgt (w.setCell ⟨b, 1, none⟩ (.int .i64 (k + 1))) 2 (.int .u64 (IntKind.u64.wrap x))
    exact ⟨rfl, rfl, rfl, by simp, fun i hi hr => (d.block i (by simpa using hi) (by simp; omega)).trans (a.block i hi (by simp; omega))⟩
  refine ⟨h1.draws m, by simp, p, n, c, k + 1, IntKind.u64.wrap x, ⟨by go_simp, ?_, ?_⟩, ⟨by simp; exact f1, by simp; exact f2⟩, ⟨hb.1, fun i hi => ?_⟩, hn, ⟨by omega, by omega⟩, ?_⟩
  · have := World.block_lt_of_cell? _ _ c1
    go_simp
  · go_simp
  · obtain ⟨bb, o, y, e, e1, e2, e3⟩ := hb.2 i hi
    refine ⟨bb, o, y, e, e1, ?_, e3⟩
    have hbl : Below bb.succ w (((w.setCell ⟨b, 1, none⟩ (.int .i64 (k + 1))).setCell ⟨b, 2, none⟩ (.int .u64 (IntKind.u64.wrap x))).drewN m) := by
      have h2 := h1.draws m
      exact ⟨h2.os, h2.tape, h2.output, h2.size, fun j hj => by
        by_cases hjw : j < w.heap.size
        · exact h2.block j hjw (.inl (by omega))
        · have := World.block_lt_of_cell? _ _ e2
          exact absurd (show j < w.heap.size by have : bb < w.heap.size := this; omega) hjw⟩
    exact (hbl.cell (p := ⟨bb, o + i, none⟩) (Nat.lt_succ_self bb)).trans e2
  · rw [IntKind.wrap_u64]
    omega
theorem and255 (x : Int) (h : 0 ≤ x) (h2 : x < 18446744073709551616) : 0 ≤ bits .and .u64 x 255 ∧ bits .and .u64 x 255 ≤ 255 := by
  obtain ⟨n, rfl⟩ := Int.eq_ofNat_of_zero_le h
  have e : bits .and .u64 (n : Int) 255 = ((n &&& 255 : Nat) : Int) := bits_and_u64_nat n 255 (by omega) (by omega)
  rw [e]
  have := Nat.and_le_right (n := n) (m := 255)
  omega
set_option maxHeartbeats 2000000 in
theorem next_any (b K : Nat) (w : World) (h : SrcAt w b K) (hK : K ≤ 1000000) : Calls Try.prog 77 #[.pointer (some ⟨b, 0, none⟩)] w (SP w b (K + 1) 0 255) := by
  obtain ⟨p, n, c, k, s, ⟨c0, c1, c2⟩, ⟨f1, f2⟩, hby, hn, ⟨hk0, hk1⟩, hs0, hs1⟩ := h
  obtain ⟨⟨hc1, hc2⟩, hv⟩ := hby
  have HV := Lib.hid hv
  clear hv
  by_cases hlt : k < n
  · obtain ⟨km, rfl⟩ := Int.eq_ofNat_of_zero_le hk0
    obtain ⟨bb, o, x, rfl, hbb, hx, hx0, hx1⟩ := HV.out km (by omega)
    go_enter Try.func77, Try.ntmps77
    go_wp2_with (first | (with_reducible refine at_list ?_; refine wpList_fop rfl rfl rfl rfl rfl ?_; intro r n hr0; have hr := hr0 _ _ (by first | with_reducible assumption | exact rfl) (by first | with_reducible assumption | exact rfl); clear hr0) | (with_reducible refine at_list ?_; refine wpList_neg rfl rfl rfl ?_; intro r hr0; have hr := hr0 _ (by first | with_reducible assumption | exact rfl); clear hr0) | (with_reducible refine at_list ?_; refine wpList_fop_g rfl rfl rfl rfl rfl ?_; intro r n hr0; have hr := hr0 _ _ (by first | with_reducible assumption | exact rfl) (by first | with_reducible assumption | exact rfl); clear hr0) | (with_reducible refine at_list ?_; refine wpList_wide_g rfl rfl Try.underlying26 Try.underlying54 rfl ?_; intro r n hr0; have hr := hr0 _ (by first | with_reducible assumption | exact rfl); clear hr0) | (with_reducible refine at_list ?_; refine wpList_wide rfl rfl rfl Try.underlying26 Try.underlying54 ?_; intro r n hr0; have hr := hr0 _ (by first | with_reducible assumption | exact rfl); clear hr0))
    all_goals (try ((first | (refine wp_some_lit (by kernel_rfl) (by kernel_rfl) ?_; (refine wpSome_one ?_; go_big_quiet_step (fail); refine wpQuiet_nil ?_); (refine wpSome_one ?_; go_big_quiet_step (fail); refine wpQuiet_nil ?_); (refine wpSome_one ?_; go_big_quiet_step (fail); refine wpQuiet_nil ?_); (refine wpSome_one ?_; go_big_quiet_step (fail); refine wpQuiet_nil ?_); (refine wpSome_one ?_; go_big_quiet_step (fail); refine wpQuiet_nil ?_); (refine wpSome_one ?_; go_big_quiet_step (fail); refine wpQuiet_nil ?_); (refine wpSome_one ?_; go_big_quiet_step (fail); refine wpQuiet_nil ?_); (refine wpSome_one ?_; go_big_quiet_step (fail); refine wpQuiet_nil ?_); (refine wpSome_one ?_; go_big_quiet_step (fail); refine wpQuiet_nil ?_); (refine wpSome_one ?_; go_big_quiet_step (fail); refine wpQuiet_nil ?_); refine wpSome_nil ?_; intro w' hw'; obtain ⟨nq, rfl⟩ := hw') | (refine wp_some_lit (by kernel_rfl) (by kernel_rfl) ?_; (refine wpSome_one ?_; go_big_quiet_step (fail); refine wpQuiet_nil ?_); (refine wpSome_one ?_; go_big_quiet_step (fail); refine wpQuiet_nil ?_); (refine wpSome_one ?_; go_big_quiet_step (fail); refine wpQuiet_nil ?_); (refine wpSome_one ?_; go_big_quiet_step (fail); refine wpQuiet_nil ?_); (refine wpSome_one ?_; go_big_quiet_step (fail); refine wpQuiet_nil ?_); (refine wpSome_one ?_; go_big_quiet_step (fail); refine wpQuiet_nil ?_); (refine wpSome_one ?_; go_big_quiet_step (fail); refine wpQuiet_nil ?_); (refine wpSome_one ?_; go_big_quiet_step (fail); refine wpQuiet_nil ?_); (refine wpSome_one ?_; go_big_quiet_step (fail); refine wpQuiet_nil ?_); (refine wpSome_one ?_; go_big_quiet_step (fail); refine wpQuiet_nil ?_); (refine wpSome_one ?_; go_big_quiet_step (fail); refine wpQuiet_nil ?_); (refine wpSome_one ?_; go_big_quiet_step (fail); refine wpQuiet_nil ?_); refine wpSome_nil ?_; intro w' hw'; obtain ⟨nq, rfl⟩ := hw') | (refine wp_some_lit (by kernel_rfl) (by kernel_rfl) ?_; (refine wpSome_one ?_; go_big_quiet_step (fail); refine wpQuiet_nil ?_); (refine wpSome_one ?_; go_big_quiet_step (fail); refine wpQuiet_nil ?_); (refine wpSome_one ?_; go_big_quiet_step (fail); refine wpQuiet_nil ?_); (refine wpSome_one ?_; go_big_quiet_step (fail); refine wpQuiet_nil ?_); (refine wpSome_one ?_; go_big_quiet_step (fail); refine wpQuiet_nil ?_); (refine wpSome_one ?_; go_big_quiet_step (fail); refine wpQuiet_nil ?_); (refine wpSome_one ?_; go_big_quiet_step (fail); refine wpQuiet_nil ?_); (refine wpSome_one ?_; go_big_quiet_step (fail); refine wpQuiet_nil ?_); (refine wpSome_one ?_; go_big_quiet_step (fail); refine wpQuiet_nil ?_); (refine wpSome_one ?_; go_big_quiet_step (fail); refine wpQuiet_nil ?_); refine wpSome_nil ?_; intro w' hw'; obtain ⟨nq, rfl⟩ := hw')); go_wp2_with (first | (with_reducible refine at_list ?_; refine wpList_fop rfl rfl rfl rfl rfl ?_; intro r n hr0; have hr := hr0 _ _ (by first | with_reducible assumption | exact rfl) (by first | with_reducible assumption | exact rfl); clear hr0) | (with_reducible refine at_list ?_; refine wpList_neg rfl rfl rfl ?_; intro r hr0; have hr := hr0 _ (by first | with_reducible assumption | exact rfl); clear hr0) | (with_reducible refine at_list ?_; refine wpList_fop_g rfl rfl rfl rfl rfl ?_; intro r n hr0; have hr := hr0 _ _ (by first | with_reducible assumption | exact rfl) (by first | with_reducible assumption | exact rfl); clear hr0) | (with_reducible refine at_list ?_; refine wpList_wide_g rfl rfl Try.underlying26 Try.underlying54 rfl ?_; intro r n hr0; have hr := hr0 _ (by first | with_reducible assumption | exact rfl); clear hr0) | (with_reducible refine at_list ?_; refine wpList_wide rfl rfl rfl Try.underlying26 Try.underlying54 ?_; intro r n hr0; have hr := hr0 _ (by first | with_reducible assumption | exact rfl); clear hr0))))
    all_goals (try ((first | (refine wp_some_lit (by kernel_rfl) (by kernel_rfl) ?_; (refine wpSome_one ?_; go_big_quiet_step (fail); refine wpQuiet_nil ?_); (refine wpSome_one ?_; go_big_quiet_step (fail); refine wpQuiet_nil ?_); (refine wpSome_one ?_; go_big_quiet_step (fail); refine wpQuiet_nil ?_); (refine wpSome_one ?_; go_big_quiet_step (fail); refine wpQuiet_nil ?_); (refine wpSome_one ?_; go_big_quiet_step (fail); refine wpQuiet_nil ?_); (refine wpSome_one ?_; go_big_quiet_step (fail); refine wpQuiet_nil ?_); (refine wpSome_one ?_; go_big_quiet_step (fail); refine wpQuiet_nil ?_); (refine wpSome_one ?_; go_big_quiet_step (fail); refine wpQuiet_nil ?_); (refine wpSome_one ?_; go_big_quiet_step (fail); refine wpQuiet_nil ?_); (refine wpSome_one ?_; go_big_quiet_step (fail); refine wpQuiet_nil ?_); refine wpSome_nil ?_; intro w' hw'; obtain ⟨nq, rfl⟩ := hw') | (refine wp_some_lit (by kernel_rfl) (by kernel_rfl) ?_; (refine wpSome_one ?_; go_big_quiet_step (fail); refine wpQuiet_nil ?_); (refine wpSome_one ?_; go_big_quiet_step (fail); refine wpQuiet_nil ?_); (refine wpSome_one ?_; go_big_quiet_step (fail); refine wpQuiet_nil ?_); (refine wpSome_one ?_; go_big_quiet_step (fail); refine wpQuiet_nil ?_); (refine wpSome_one ?_; go_big_quiet_step (fail); refine wpQuiet_nil ?_); (refine wpSome_one ?_; go_big_quiet_step (fail); refine wpQuiet_nil ?_); (refine wpSome_one ?_; go_big_quiet_step (fail); refine wpQuiet_nil ?_); (refine wpSome_one ?_; go_big_quiet_step (fail); refine wpQuiet_nil ?_); (refine wpSome_one ?_; go_big_quiet_step (fail); refine wpQuiet_nil ?_); (refine wpSome_one ?_; go_big_quiet_step (fail); refine wpQuiet_nil ?_); (refine wpSome_one ?_; go_big_quiet_step (fail); refine wpQuiet_nil ?_); (refine wpSome_one ?_; go_big_quiet_step (fail); refine wpQuiet_nil ?_); refine wpSome_nil ?_; intro w' hw'; obtain ⟨nq, rfl⟩ := hw') | (refine wp_some_lit (by kernel_rfl) (by kernel_rfl) ?_; (refine wpSome_one ?_; go_big_quiet_step (fail); refine wpQuiet_nil ?_); (refine wpSome_one ?_; go_big_quiet_step (fail); refine wpQuiet_nil ?_); (refine wpSome_one ?_; go_big_quiet_step (fail); refine wpQuiet_nil ?_); (refine wpSome_one ?_; go_big_quiet_step (fail); refine wpQuiet_nil ?_); (refine wpSome_one ?_; go_big_quiet_step (fail); refine wpQuiet_nil ?_); (refine wpSome_one ?_; go_big_quiet_step (fail); refine wpQuiet_nil ?_); (refine wpSome_one ?_; go_big_quiet_step (fail); refine wpQuiet_nil ?_); (refine wpSome_one ?_; go_big_quiet_step (fail); refine wpQuiet_nil ?_); (refine wpSome_one ?_; go_big_quiet_step (fail); refine wpQuiet_nil ?_); (refine wpSome_one ?_; go_big_quiet_step (fail); refine wpQuiet_nil ?_); refine wpSome_nil ?_; intro w' hw'; obtain ⟨nq, rfl⟩ := hw')); go_wp2_with (first | (with_reducible refine at_list ?_; refine wpList_fop rfl rfl rfl rfl rfl ?_; intro r n hr0; have hr := hr0 _ _ (by first | with_reducible assumption | exact rfl) (by first | with_reducible assumption | exact rfl); clear hr0) | (with_reducible refine at_list ?_; refine wpList_neg rfl rfl rfl ?_; intro r hr0; have hr := hr0 _ (by first | with_reducible assumption | exact rfl); clear hr0) | (with_reducible refine at_list ?_; refine wpList_fop_g rfl rfl rfl rfl rfl ?_; intro r n hr0; have hr := hr0 _ _ (by first | with_reducible assumption | exact rfl) (by first | with_reducible assumption | exact rfl); clear hr0) | (with_reducible refine at_list ?_; refine wpList_wide_g rfl rfl Try.underlying26 Try.underlying54 rfl ?_; intro r n hr0; have hr := hr0 _ (by first | with_reducible assumption | exact rfl); clear hr0) | (with_reducible refine at_list ?_; refine wpList_wide rfl rfl rfl Try.underlying26 Try.underlying54 ?_; intro r n hr0; have hr := hr0 _ (by first | with_reducible assumption | exact rfl); clear hr0))))
    all_goals (try ((first | (refine wp_some_lit (by kernel_rfl) (by kernel_rfl) ?_; (refine wpSome_one ?_; go_big_quiet_step (fail); refine wpQuiet_nil ?_); (refine wpSome_one ?_; go_big_quiet_step (fail); refine wpQuiet_nil ?_); (refine wpSome_one ?_; go_big_quiet_step (fail); refine wpQuiet_nil ?_); (refine wpSome_one ?_; go_big_quiet_step (fail); refine wpQuiet_nil ?_); (refine wpSome_one ?_; go_big_quiet_step (fail); refine wpQuiet_nil ?_); (refine wpSome_one ?_; go_big_quiet_step (fail); refine wpQuiet_nil ?_); (refine wpSome_one ?_; go_big_quiet_step (fail); refine wpQuiet_nil ?_); (refine wpSome_one ?_; go_big_quiet_step (fail); refine wpQuiet_nil ?_); (refine wpSome_one ?_; go_big_quiet_step (fail); refine wpQuiet_nil ?_); (refine wpSome_one ?_; go_big_quiet_step (fail); refine wpQuiet_nil ?_); refine wpSome_nil ?_; intro w' hw'; obtain ⟨nq, rfl⟩ := hw') | (refine wp_some_lit (by kernel_rfl) (by kernel_rfl) ?_; (refine wpSome_one ?_; go_big_quiet_step (fail); refine wpQuiet_nil ?_); (refine wpSome_one ?_; go_big_quiet_step (fail); refine wpQuiet_nil ?_); (refine wpSome_one ?_; go_big_quiet_step (fail); refine wpQuiet_nil ?_); (refine wpSome_one ?_; go_big_quiet_step (fail); refine wpQuiet_nil ?_); (refine wpSome_one ?_; go_big_quiet_step (fail); refine wpQuiet_nil ?_); (refine wpSome_one ?_; go_big_quiet_step (fail); refine wpQuiet_nil ?_); (refine wpSome_one ?_; go_big_quiet_step (fail); refine wpQuiet_nil ?_); (refine wpSome_one ?_; go_big_quiet_step (fail); refine wpQuiet_nil ?_); (refine wpSome_one ?_; go_big_quiet_step (fail); refine wpQuiet_nil ?_); (refine wpSome_one ?_; go_big_quiet_step (fail); refine wpQuiet_nil ?_); (refine wpSome_one ?_; go_big_quiet_step (fail); refine wpQuiet_nil ?_); (refine wpSome_one ?_; go_big_quiet_step (fail); refine wpQuiet_nil ?_); refine wpSome_nil ?_; intro w' hw'; obtain ⟨nq, rfl⟩ := hw') | (refine wp_some_lit (by kernel_rfl) (by kernel_rfl) ?_; (refine wpSome_one ?_; go_big_quiet_step (fail); refine wpQuiet_nil ?_); (refine wpSome_one ?_; go_big_quiet_step (fail); refine wpQuiet_nil ?_); (refine wpSome_one ?_; go_big_quiet_step (fail); refine wpQuiet_nil ?_); (refine wpSome_one ?_; go_big_quiet_step (fail); refine wpQuiet_nil ?_); (refine wpSome_one ?_; go_big_quiet_step (fail); refine wpQuiet_nil ?_); (refine wpSome_one ?_; go_big_quiet_step (fail); refine wpQuiet_nil ?_); (refine wpSome_one ?_; go_big_quiet_step (fail); refine wpQuiet_nil ?_); (refine wpSome_one ?_; go_big_quiet_step (fail); refine wpQuiet_nil ?_); (refine wpSome_one ?_; go_big_quiet_step (fail); refine wpQuiet_nil ?_); (refine wpSome_one ?_; go_big_quiet_step (fail); refine wpQuiet_nil ?_); refine wpSome_nil ?_; intro w' hw'; obtain ⟨nq, rfl⟩ := hw')); go_wp2_with (first | (with_reducible refine at_list ?_; refine wpList_fop rfl rfl rfl rfl rfl ?_; intro r n hr0; have hr := hr0 _ _ (by first | with_reducible assumption | exact rfl) (by first | with_reducible assumption | exact rfl); clear hr0) | (with_reducible refine at_list ?_; refine wpList_neg rfl rfl rfl ?_; intro r hr0; have hr := hr0 _ (by first | with_reducible assumption | exact rfl); clear hr0) | (with_reducible refine at_list ?_; refine wpList_fop_g rfl rfl rfl rfl rfl ?_; intro r n hr0; have hr := hr0 _ _ (by first | with_reducible assumption | exact rfl) (by first | with_reducible assumption | exact rfl); clear hr0) | (with_reducible refine at_list ?_; refine wpList_wide_g rfl rfl Try.underlying26 Try.underlying54 rfl ?_; intro r n hr0; have hr := hr0 _ (by first | with_reducible assumption | exact rfl); clear hr0) | (with_reducible refine at_list ?_; refine wpList_wide rfl rfl rfl Try.underlying26 Try.underlying54 ?_; intro r n hr0; have hr := hr0 _ (by first | with_reducible assumption | exact rfl); clear hr0))))
    all_goals (try (first | kernel_rfl | rfl))
    all_goals
      go_ret
      obtain ⟨e1, e2, e3⟩ := src_next c0 c1 c2 f1 f2 ⟨⟨hc1, hc2⟩, HV.out⟩ hn ⟨hk0, hk1⟩ (IntKind.u64.wrap (IntKind.u64.wrap (s * 6364136223846793005) + x) + 1442695040888963407) 0
      exact ⟨_, rfl, ⟨hx0, hx1⟩, ⟨e1.os, e1.tape, e1.output, e1.size, e1.block⟩, e2, e3⟩
  · go_enter Try.func77, Try.ntmps77
    go_wp2_with (first | (with_reducible refine at_list ?_; refine wpList_fop rfl rfl rfl rfl rfl ?_; intro r n hr0; have hr := hr0 _ _ (by first | with_reducible assumption | exact rfl) (by first | with_reducible assumption | exact rfl); clear hr0) | (with_reducible refine at_list ?_; refine wpList_neg rfl rfl rfl ?_; intro r hr0; have hr := hr0 _ (by first | with_reducible assumption | exact rfl); clear hr0) | (with_reducible refine at_list ?_; refine wpList_fop_g rfl rfl rfl rfl rfl ?_; intro r n hr0; have hr := hr0 _ _ (by first | with_reducible assumption | exact rfl) (by first | with_reducible assumption | exact rfl); clear hr0) | (with_reducible refine at_list ?_; refine wpList_wide_g rfl rfl Try.underlying26 Try.underlying54 rfl ?_; intro r n hr0; have hr := hr0 _ (by first | with_reducible assumption | exact rfl); clear hr0) | (with_reducible refine at_list ?_; refine wpList_wide rfl rfl rfl Try.underlying26 Try.underlying54 ?_; intro r n hr0; have hr := hr0 _ (by first | with_reducible assumption | exact rfl); clear hr0))
    all_goals (try ((first | (refine wp_some_lit (by kernel_rfl) (by kernel_rfl) ?_; (refine wpSome_one ?_; go_big_quiet_step (fail); refine wpQuiet_nil ?_); (refine wpSome_one ?_; go_big_quiet_step (fail); refine wpQuiet_nil ?_); (refine wpSome_one ?_; go_big_quiet_step (fail); refine wpQuiet_nil ?_); (refine wpSome_one ?_; go_big_quiet_step (fail); refine wpQuiet_nil ?_); (refine wpSome_one ?_; go_big_quiet_step (fail); refine wpQuiet_nil ?_); (refine wpSome_one ?_; go_big_quiet_step (fail); refine wpQuiet_nil ?_); (refine wpSome_one ?_; go_big_quiet_step (fail); refine wpQuiet_nil ?_); (refine wpSome_one ?_; go_big_quiet_step (fail); refine wpQuiet_nil ?_); (refine wpSome_one ?_; go_big_quiet_step (fail); refine wpQuiet_nil ?_); (refine wpSome_one ?_; go_big_quiet_step (fail); refine wpQuiet_nil ?_); refine wpSome_nil ?_; intro w' hw'; obtain ⟨nq, rfl⟩ := hw') | (refine wp_some_lit (by kernel_rfl) (by kernel_rfl) ?_; (refine wpSome_one ?_; go_big_quiet_step (fail); refine wpQuiet_nil ?_); (refine wpSome_one ?_; go_big_quiet_step (fail); refine wpQuiet_nil ?_); (refine wpSome_one ?_; go_big_quiet_step (fail); refine wpQuiet_nil ?_); (refine wpSome_one ?_; go_big_quiet_step (fail); refine wpQuiet_nil ?_); (refine wpSome_one ?_; go_big_quiet_step (fail); refine wpQuiet_nil ?_); (refine wpSome_one ?_; go_big_quiet_step (fail); refine wpQuiet_nil ?_); (refine wpSome_one ?_; go_big_quiet_step (fail); refine wpQuiet_nil ?_); (refine wpSome_one ?_; go_big_quiet_step (fail); refine wpQuiet_nil ?_); (refine wpSome_one ?_; go_big_quiet_step (fail); refine wpQuiet_nil ?_); (refine wpSome_one ?_; go_big_quiet_step (fail); refine wpQuiet_nil ?_); (refine wpSome_one ?_; go_big_quiet_step (fail); refine wpQuiet_nil ?_); (refine wpSome_one ?_; go_big_quiet_step (fail); refine wpQuiet_nil ?_); refine wpSome_nil ?_; intro w' hw'; obtain ⟨nq, rfl⟩ := hw') | (refine wp_some_lit (by kernel_rfl) (by kernel_rfl) ?_; (refine wpSome_one ?_; go_big_quiet_step (fail); refine wpQuiet_nil ?_); (refine wpSome_one ?_; go_big_quiet_step (fail); refine wpQuiet_nil ?_); (refine wpSome_one ?_; go_big_quiet_step (fail); refine wpQuiet_nil ?_); (refine wpSome_one ?_; go_big_quiet_step (fail); refine wpQuiet_nil ?_); (refine wpSome_one ?_; go_big_quiet_step (fail); refine wpQuiet_nil ?_); (refine wpSome_one ?_; go_big_quiet_step (fail); refine wpQuiet_nil ?_); (refine wpSome_one ?_; go_big_quiet_step (fail); refine wpQuiet_nil ?_); (refine wpSome_one ?_; go_big_quiet_step (fail); refine wpQuiet_nil ?_); (refine wpSome_one ?_; go_big_quiet_step (fail); refine wpQuiet_nil ?_); (refine wpSome_one ?_; go_big_quiet_step (fail); refine wpQuiet_nil ?_); refine wpSome_nil ?_; intro w' hw'; obtain ⟨nq, rfl⟩ := hw')); go_wp2_with (first | (with_reducible refine at_list ?_; refine wpList_fop rfl rfl rfl rfl rfl ?_; intro r n hr0; have hr := hr0 _ _ (by first | with_reducible assumption | exact rfl) (by first | with_reducible assumption | exact rfl); clear hr0) | (with_reducible refine at_list ?_; refine wpList_neg rfl rfl rfl ?_; intro r hr0; have hr := hr0 _ (by first | with_reducible assumption | exact rfl); clear hr0) | (with_reducible refine at_list ?_; refine wpList_fop_g rfl rfl rfl rfl rfl ?_; intro r n hr0; have hr := hr0 _ _ (by first | with_reducible assumption | exact rfl) (by first | with_reducible assumption | exact rfl); clear hr0) | (with_reducible refine at_list ?_; refine wpList_wide_g rfl rfl Try.underlying26 Try.underlying54 rfl ?_; intro r n hr0; have hr := hr0 _ (by first | with_reducible assumption | exact rfl); clear hr0) | (with_reducible refine at_list ?_; refine wpList_wide rfl rfl rfl Try.underlying26 Try.underlying54 ?_; intro r n hr0; have hr := hr0 _ (by first | with_reducible assumption | exact rfl); clear hr0))))
    all_goals (try ((first | (refine wp_some_lit (by kernel_rfl) (by kernel_rfl) ?_; (refine wpSome_one ?_; go_big_quiet_step (fail); refine wpQuiet_nil ?_); (refine wpSome_one ?_; go_big_quiet_step (fail); refine wpQuiet_nil ?_); (refine wpSome_one ?_; go_big_quiet_step (fail); refine wpQuiet_nil ?_); (refine wpSome_one ?_; go_big_quiet_step (fail); refine wpQuiet_nil ?_); (refine wpSome_one ?_; go_big_quiet_step (fail); refine wpQuiet_nil ?_); (refine wpSome_one ?_; go_big_quiet_step (fail); refine wpQuiet_nil ?_); (refine wpSome_one ?_; go_big_quiet_step (fail); refine wpQuiet_nil ?_); (refine wpSome_one ?_; go_big_quiet_step (fail); refine wpQuiet_nil ?_); (refine wpSome_one ?_; go_big_quiet_step (fail); refine wpQuiet_nil ?_); (refine wpSome_one ?_; go_big_quiet_step (fail); refine wpQuiet_nil ?_); refine wpSome_nil ?_; intro w' hw'; obtain ⟨nq, rfl⟩ := hw') | (refine wp_some_lit (by kernel_rfl) (by kernel_rfl) ?_; (refine wpSome_one ?_; go_big_quiet_step (fail); refine wpQuiet_nil ?_); (refine wpSome_one ?_; go_big_quiet_step (fail); refine wpQuiet_nil ?_); (refine wpSome_one ?_; go_big_quiet_step (fail); refine wpQuiet_nil ?_); (refine wpSome_one ?_; go_big_quiet_step (fail); refine wpQuiet_nil ?_); (refine wpSome_one ?_; go_big_quiet_step (fail); refine wpQuiet_nil ?_); (refine wpSome_one ?_; go_big_quiet_step (fail); refine wpQuiet_nil ?_); (refine wpSome_one ?_; go_big_quiet_step (fail); refine wpQuiet_nil ?_); (refine wpSome_one ?_; go_big_quiet_step (fail); refine wpQuiet_nil ?_); (refine wpSome_one ?_; go_big_quiet_step (fail); refine wpQuiet_nil ?_); (refine wpSome_one ?_; go_big_quiet_step (fail); refine wpQuiet_nil ?_); (refine wpSome_one ?_; go_big_quiet_step (fail); refine wpQuiet_nil ?_); (refine wpSome_one ?_; go_big_quiet_step (fail); refine wpQuiet_nil ?_); refine wpSome_nil ?_; intro w' hw'; obtain ⟨nq, rfl⟩ := hw') | (refine wp_some_lit (by kernel_rfl) (by kernel_rfl) ?_; (refine wpSome_one ?_; go_big_quiet_step (fail); refine wpQuiet_nil ?_); (refine wpSome_one ?_; go_big_quiet_step (fail); refine wpQuiet_nil ?_); (refine wpSome_one ?_; go_big_quiet_step (fail); refine wpQuiet_nil ?_); (refine wpSome_one ?_; go_big_quiet_step (fail); refine wpQuiet_nil ?_); (refine wpSome_one ?_; go_big_quiet_step (fail); refine wpQuiet_nil ?_); (refine wpSome_one ?_; go_big_quiet_step (fail); refine wpQuiet_nil ?_); (refine wpSome_one ?_; go_big_quiet_step (fail); refine wpQuiet_nil ?_); (refine wpSome_one ?_; go_big_quiet_step (fail); refine wpQuiet_nil ?_); (refine wpSome_one ?_; go_big_quiet_step (fail); refine wpQuiet_nil ?_); (refine wpSome_one ?_; go_big_quiet_step (fail); refine wpQuiet_nil ?_); refine wpSome_nil ?_; intro w' hw'; obtain ⟨nq, rfl⟩ := hw')); go_wp2_with (first | (with_reducible refine at_list ?_; refine wpList_fop rfl rfl rfl rfl rfl ?_; intro r n hr0; have hr := hr0 _ _ (by first | with_reducible assumption | exact rfl) (by first | with_reducible assumption | exact rfl); clear hr0) | (with_reducible refine at_list ?_; refine wpList_neg rfl rfl rfl ?_; intro r hr0; have hr := hr0 _ (by first | with_reducible assumption | exact rfl); clear hr0) | (with_reducible refine at_list ?_; refine wpList_fop_g rfl rfl rfl rfl rfl ?_; intro r n hr0; have hr := hr0 _ _ (by first | with_reducible assumption | exact rfl) (by first | with_reducible assumption | exact rfl); clear hr0) | (with_reducible refine at_list ?_; refine wpList_wide_g rfl rfl Try.underlying26 Try.underlying54 rfl ?_; intro r n hr0; have hr := hr0 _ (by first | with_reducible assumption | exact rfl); clear hr0) | (with_reducible refine at_list ?_; refine wpList_wide rfl rfl rfl Try.underlying26 Try.underlying54 ?_; intro r n hr0; have hr := hr0 _ (by first | with_reducible assumption | exact rfl); clear hr0))))
    all_goals (try ((first | (refine wp_some_lit (by kernel_rfl) (by kernel_rfl) ?_; (refine wpSome_one ?_; go_big_quiet_step (fail); refine wpQuiet_nil ?_); (refine wpSome_one ?_; go_big_quiet_step (fail); refine wpQuiet_nil ?_); (refine wpSome_one ?_; go_big_quiet_step (fail); refine wpQuiet_nil ?_); (refine wpSome_one ?_; go_big_quiet_step (fail); refine wpQuiet_nil ?_); (refine wpSome_one ?_; go_big_quiet_step (fail); refine wpQuiet_nil ?_); (refine wpSome_one ?_; go_big_quiet_step (fail); refine wpQuiet_nil ?_); (refine wpSome_one ?_; go_big_quiet_step (fail); refine wpQuiet_nil ?_); (refine wpSome_one ?_; go_big_quiet_step (fail); refine wpQuiet_nil ?_); (refine wpSome_one ?_; go_big_quiet_step (fail); refine wpQuiet_nil ?_); (refine wpSome_one ?_; go_big_quiet_step (fail); refine wpQuiet_nil ?_); refine wpSome_nil ?_; intro w' hw'; obtain ⟨nq, rfl⟩ := hw') | (refine wp_some_lit (by kernel_rfl) (by kernel_rfl) ?_; (refine wpSome_one ?_; go_big_quiet_step (fail); refine wpQuiet_nil ?_); (refine wpSome_one ?_; go_big_quiet_step (fail); refine wpQuiet_nil ?_); (refine wpSome_one ?_; go_big_quiet_step (fail); refine wpQuiet_nil ?_); (refine wpSome_one ?_; go_big_quiet_step (fail); refine wpQuiet_nil ?_); (refine wpSome_one ?_; go_big_quiet_step (fail); refine wpQuiet_nil ?_); (refine wpSome_one ?_; go_big_quiet_step (fail); refine wpQuiet_nil ?_); (refine wpSome_one ?_; go_big_quiet_step (fail); refine wpQuiet_nil ?_); (refine wpSome_one ?_; go_big_quiet_step (fail); refine wpQuiet_nil ?_); (refine wpSome_one ?_; go_big_quiet_step (fail); refine wpQuiet_nil ?_); (refine wpSome_one ?_; go_big_quiet_step (fail); refine wpQuiet_nil ?_); (refine wpSome_one ?_; go_big_quiet_step (fail); refine wpQuiet_nil ?_); (refine wpSome_one ?_; go_big_quiet_step (fail); refine wpQuiet_nil ?_); refine wpSome_nil ?_; intro w' hw'; obtain ⟨nq, rfl⟩ := hw') | (refine wp_some_lit (by kernel_rfl) (by kernel_rfl) ?_; (refine wpSome_one ?_; go_big_quiet_step (fail); refine wpQuiet_nil ?_); (refine wpSome_one ?_; go_big_quiet_step (fail); refine wpQuiet_nil ?_); (refine wpSome_one ?_; go_big_quiet_step (fail); refine wpQuiet_nil ?_); (refine wpSome_one ?_; go_big_quiet_step (fail); refine wpQuiet_nil ?_); (refine wpSome_one ?_; go_big_quiet_step (fail); refine wpQuiet_nil ?_); (refine wpSome_one ?_; go_big_quiet_step (fail); refine wpQuiet_nil ?_); (refine wpSome_one ?_; go_big_quiet_step (fail); refine wpQuiet_nil ?_); (refine wpSome_one ?_; go_big_quiet_step (fail); refine wpQuiet_nil ?_); (refine wpSome_one ?_; go_big_quiet_step (fail); refine wpQuiet_nil ?_); (refine wpSome_one ?_; go_big_quiet_step (fail); refine wpQuiet_nil ?_); refine wpSome_nil ?_; intro w' hw'; obtain ⟨nq, rfl⟩ := hw')); go_wp2_with (first | (with_reducible refine at_list ?_; refine wpList_fop rfl rfl rfl rfl rfl ?_; intro r n hr0; have hr := hr0 _ _ (by first | with_reducible assumption | exact rfl) (by first | with_reducible assumption | exact rfl); clear hr0) | (with_reducible refine at_list ?_; refine wpList_neg rfl rfl rfl ?_; intro r hr0; have hr := hr0 _ (by first | with_reducible assumption | exact rfl); clear hr0) | (with_reducible refine at_list ?_; refine wpList_fop_g rfl rfl rfl rfl rfl ?_; intro r n hr0; have hr := hr0 _ _ (by first | with_reducible assumption | exact rfl) (by first | with_reducible assumption | exact rfl); clear hr0) | (with_reducible refine at_list ?_; refine wpList_wide_g rfl rfl Try.underlying26 Try.underlying54 rfl ?_; intro r n hr0; have hr := hr0 _ (by first | with_reducible assumption | exact rfl); clear hr0) | (with_reducible refine at_list ?_; refine wpList_wide rfl rfl rfl Try.underlying26 Try.underlying54 ?_; intro r n hr0; have hr := hr0 _ (by first | with_reducible assumption | exact rfl); clear hr0))))
    all_goals (try (first | kernel_rfl | rfl))
    all_goals
      go_ret
      obtain ⟨e1, e2, e3⟩ := src_next c0 c1 c2 f1 f2 ⟨⟨hc1, hc2⟩, HV.out⟩ hn ⟨hk0, hk1⟩ (IntKind.u64.wrap (IntKind.u64.wrap (s * 6364136223846793005)) + 1442695040888963407) 0
      obtain ⟨g1, g2⟩ := and255 (IntKind.u64.wrap (IntKind.u64.wrap (IntKind.u64.wrap (s * 6364136223846793005)) + 1442695040888963407) / 1099511627776) (by rw [IntKind.wrap_u64]; omega) (by rw [IntKind.wrap_u64]; omega)
      refine ⟨_, rfl, ?_, ⟨e1.os, e1.tape, e1.output, e1.size, e1.block⟩, e2, e3⟩
      unfold wrap64
      omega
end Go.Proofs.Ytphamdlnnfionaa
