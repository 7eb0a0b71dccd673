/-
  A statement whose order Go leaves open and in which a call, an append or a store turns memory that was there before: what holds of the world is told from one such operation to the next; one walk in the order of the text serves every order. No condition; nothing of the program is named here.
  More steps of plans with operations that turn memory: a slice of one number, an append to an own slice, a store behind which what it waited for is told anew. No condition but what each law says.
  What stands in a world and goes on standing: a bag of facts. No condition but what each law says.
  What IEEE 754's rounding does to the exact value of a result: the nearest number of a grid that has at least the format's digits. Plain laws on data; no condition but what each law says.
  Words of floats as rational numbers: what an operation gives, rounded; bounds that are kept. No condition but what each law says.
  The error function in 64 bits as a plain function, and how great it gets. No condition but what each law says.
  Words as exact numbers: small dyadic ones, and what is reckoned of them without rounding; what is rounded, between bounds. No condition but what each law says; nothing of the program is named here.
-/
import Derived.Test.YtpnkapdemgieaaaRM2
import Derived.Test.YtpnkapdemgieaaaRM1
set_option linter.unusedSimpArgs false
set_option linter.unusedVariables false
set_option linter.unusedSectionVars false
namespace Go.Proofs.Ytpnkapdemgieaaa
open Go Go.RowKit
/-- A claim; of an operation that turns memory (mode 3) also what holds of every world from it on. Mode 4: it asks only what always holds, and nothing is told of it but its value. -/
structure GC where
  c : Clm
  I : World → Prop
  kept : ∀ w w', I w → Below w.heap.size w w' → I w'
def GC.of (c : Clm) : GC := ⟨c, fun _ => True, fun _ _ _ _ => trivial⟩
def invG (I : World → Prop) (g : GC) : World → Prop := match g.c.mode with | 3 => g.I | _ => I
def nextG (c : Clm) (i : Nat) (k : World → Prop) (ks : List (Nat × (World → Prop))) : List (Nat × (World → Prop)) :=
  match c.mode with | 0 => ks | 4 => ks | 3 => [(i, k)] | _ => (i, k) :: ks
section
variable {P : Program} {ops : Array Oper} {Q : Exit → Act → World → Prop} {F : World → Prop}
def stepG (P : Program) (ops : Array Oper) (F I : World → Prop) (o : Oper) (g : GC) (ks : List (Nat × (World → Prop))) (a : Act) : Prop :=
  (Region.wanted o (yielded ops a.tmps) = true ∧ (g.c.mode = 0 ∨ g.c.mode = 1 ∨ g.c.mode = 3 ∨ g.c.mode = 4) ∧
    (g.c.mode = 0 → ∀ w, uponC P (fun u w' => (∃ n, w' = w.drewN n) ∧ g.c.S (o.op.operands.toList.map a.eval) u) ((execOp a.eval o).run P w)) ∧
    (g.c.mode = 4 → (∀ x v w, g.c.K x v w) ∧ ∀ w, F w → uponC P (fun u w' => Below w.heap.size w w' ∧ g.c.S (o.op.operands.toList.map a.eval) u) ((execOp a.eval o).run P w)) ∧
    (g.c.mode = 1 → ∀ w, I w → depK o ks w → uponC P (fun u w' => Below w.heap.size w w' ∧ g.c.S (o.op.operands.toList.map a.eval) u ∧ g.c.K (oargs ops o a) u w') ((execOp a.eval o).run P w)) ∧
    (g.c.mode = 3 → ∀ w, I w → depK o ks w → uponC P (fun u w' => g.I w' ∧ g.c.S (o.op.operands.toList.map a.eval) u ∧ g.c.K (oargs ops o a) u w') ((execOp a.eval o).run P w))) ∨
  (Region.wanted o (yielded ops a.tmps) = false ∧ g.c.mode = 0 ∧ g.c.S (o.op.operands.toList.map a.eval) undef)
/-- The walk in the order of the text. -/
def wpG (P : Program) (ops : Array Oper) (Q : Exit → Act → World → Prop) (F : World → Prop) : (World → Prop) → List Oper → List GC → Nat → List (Nat × (World → Prop)) → Act → Prop
  | I, [], [], _, ks, a => ∀ w, I w → allK ks w → Q .normal a w
  | I, o :: l, g :: cs, i, ks, a => stepG P ops F I o g ks a ∧ ∀ v, g.c.S (o.op.operands.toList.map a.eval) v → wpG P ops Q F (invG I g) l cs (i + 1) (nextG g.c i (g.c.K (oargs ops o a) v) ks) (a.put o.dst v)
  | _, _, _, _, _, _ => False
/-- What holds of the world ahead of operation number j. -/
def Iat (I : World → Prop) : List GC → Nat → World → Prop
  | _, 0 => I
  | [], _ + 1 => I
  | g :: cs, j + 1 => Iat (invG I g) cs j
theorem Iat_zero (I : World → Prop) (cs : List GC) : Iat I cs 0 = I := by cases cs <;> rfl
theorem Iat_succ : ∀ (I : World → Prop) (cs : List GC) (j : Nat) (g : GC), cs[j]? = some g → Iat I cs (j + 1) = invG (Iat I cs j) g
  | I, [], j, g, h => by simp at h
  | I, g' :: cs, 0, g, h => by
    simp only [List.getElem?_cons_zero, Option.some.injEq] at h
    subst h
    show Iat (invG I g') cs 0 = invG (Iat I (g' :: cs) 0) g'
    rw [Iat_zero, Iat_zero]
  | I, g' :: cs, j + 1, g, h => by
    show Iat (invG I g') cs (j + 1) = invG (Iat (invG I g') cs j) g
    exact Iat_succ _ cs j g (by simpa using h)
theorem invG_ne {I : World → Prop} {g : GC} (h : g.c.mode ≠ 3) : invG I g = I := by
  unfold invG
  split
  · exact absurd (by assumption) h
  · rfl
theorem invG_eq {I : World → Prop} {g : GC} (h : g.c.mode = 3) : invG I g = g.I := by
  unfold invG
  split
  · rfl
  · exact absurd h (by assumption)
theorem Iat_over (I : World → Prop) (cs : List GC) : ∀ (d p : Nat), (∀ k g, p ≤ k → k < p + d → cs[k]? = some g → g.c.mode ≠ 3) → p + d ≤ cs.length → Iat I cs (p + d) = Iat I cs p
  | 0, _, _, _ => rfl
  | d + 1, p, h, hl => by
    have hg : cs[p + d]? = some cs[p + d] := List.getElem?_eq_getElem (by omega)
    rw [show p + (d + 1) = (p + d) + 1 by omega, Iat_succ _ _ _ _ hg, invG_ne (h (p + d) _ (by omega) (by omega) hg)]
    exact Iat_over I cs d p (fun k g h1 h2 => h k g h1 (by omega)) (by omega)
theorem Iat_kept {I : World → Prop} (hI : ∀ w w', I w → Below w.heap.size w w' → I w') : ∀ (cs : List GC) (j : Nat) (w w' : World), Iat I cs j w → Below w.heap.size w w' → Iat I cs j w'
  | cs, 0, w, w', h, hb => by rw [Iat_zero] at h ⊢; exact hI w w' h hb
  | [], j + 1, w, w', h, hb => hI w w' h hb
  | g :: cs, j + 1, w, w', h, hb => by
    refine Iat_kept (I := invG I g) (fun w w' h hb => ?_) cs j w w' h hb
    by_cases hm : g.c.mode = 3
    · rw [invG_eq hm] at h ⊢; exact g.kept w w' h hb
    · rw [invG_ne hm] at h ⊢; exact hI w w' h hb
theorem Iat_float {I F : World → Prop} (hI : ∀ w, I w → F w) : ∀ (cs : List GC) (j : Nat) (w : World), (∀ g ∈ cs, g.c.mode = 3 → ∀ w, g.I w → F w) → Iat I cs j w → F w
  | cs, 0, w, _, h => by rw [Iat_zero] at h; exact hI w h
  | [], j + 1, w, _, h => hI w h
  | g :: cs, j + 1, w, hg, h => by
    refine Iat_float (I := invG I g) (fun w h => ?_) cs j w (fun g' hg' => hg g' (List.mem_cons_of_mem _ hg')) h
    by_cases hm : g.c.mode = 3
    · rw [invG_eq hm] at h; exact hg g (by simp) hm w h
    · rw [invG_ne hm] at h; exact hI w h
/-- The claims that still stand. -/
def standsG (ops : Array Oper) (V : Nat → Value) (l : List Oper) (cs : List GC) (i : Nat) (a : Act) (w : World) (n : Nat) (X : Nat → Prop) : Prop :=
  ∀ (k : Nat) (o : Oper) (c : GC), k < n → l[k]? = some o → cs[k]? = some c → X (i + k) → (∀ (b : Nat) (cb : GC), k < b → b < n → cs[b]? = some cb → cb.c.mode ≠ 3) → c.c.K (opx ops V l i a k o) (V (i + k)) w
theorem standsG_tail {V : Nat → Value} {o : Oper} {l : List Oper} {c : GC} {cs : List GC} {i : Nat} {a : Act} {w : World} {n : Nat} {X : Nat → Prop} (h : standsG ops V (o :: l) (c :: cs) i a w (n + 1) X) : standsG ops V l cs (i + 1) (a.put o.dst (V i)) w n X := by
  intro k o' c' hk ho hc hX hb
  have := h (k + 1) o' c' (by omega) (by simpa using ho) (by simpa using hc) (by simpa [Nat.add_assoc, Nat.add_comm 1 k] using hX) (fun b cb h1 h2 h3 => by
    obtain ⟨b, rfl⟩ : ∃ b', b = b' + 1 := ⟨b - 1, by omega⟩
    exact hb b cb (by omega) (by omega) (by simpa using h3))
  rw [opx_succ] at this
  simpa [Nat.add_assoc, Nat.add_comm 1 k] using this
theorem nextG_dep {o : Oper} {c : Clm} {i : Nat} {k : World → Prop} {ks : List (Nat × (World → Prop))} {w : World} (h1 : depB o i = true → k w) (h2 : c.mode ≠ 3 → depK o ks w) : depK o (nextG c i k ks) w := by
  have h3 : (match depB o i with | true => k w | false => True) := by
    cases hd : depB o i with
    | false => trivial
    | true => exact h1 hd
  unfold nextG
  split
  · exact h2 (by omega)
  · exact h2 (by omega)
  · exact ⟨h3, trivial⟩
  · exact ⟨h3, h2 (by assumption)⟩
theorem nextG_all {c : Clm} {i : Nat} {k : World → Prop} {ks : List (Nat × (World → Prop))} {w : World} (h1 : k w) (h2 : c.mode ≠ 3 → allK ks w) : allK (nextG c i k ks) w := by
  unfold nextG
  split
  · exact h2 (by omega)
  · exact h2 (by omega)
  · exact ⟨h1, trivial⟩
  · exact ⟨h1, h2 (by assumption)⟩
def noBarG (cs : List GC) (n : Nat) : Prop := ∀ (b : Nat) (cb : GC), b < n → cs[b]? = some cb → cb.c.mode ≠ 3
def validG (V : Nat → Value) (l : List Oper) (cs : List GC) (i : Nat) (a : Act) : Prop := ∀ (k : Nat) (o : Oper) (c : GC), l[k]? = some o → cs[k]? = some c → c.c.S (opn V l i a k o) (V (i + k))
/-- What the walk in the order of the text has told of each operation. -/
theorem wpG_unroll {V : Nat → Value} : ∀ (I : World → Prop) (l : List Oper) (cs : List GC) (i : Nat) (ks : List (Nat × (World → Prop))) (a : Act), wpG P ops Q F I l cs i ks a → validG V l cs i a →
    (∀ j o, l[j]? = some o → ∃ c ks', cs[j]? = some c ∧ stepG P ops F (Iat I cs j) o c ks' (puts V (fun k => decide (k < i + j)) l i a) ∧ ∀ w, standsG ops V l cs i a w j (fun k => depB o k = true) → (noBarG cs j → depK o ks w) → depK o ks' w) ∧
    (∀ w, Iat I cs cs.length w → standsG ops V l cs i a w cs.length (fun _ => True) → (noBarG cs cs.length → allK ks w) → Q .normal (puts V (fun _ => true) l i a) w)
  | I, [], [], i, ks, a, h, hV => ⟨fun j o hj => by simp at hj, fun w hb _ hk => h w hb (hk fun b cb h1 => by simp at h1)⟩
  | I, [], c :: cs, i, ks, a, h, hV => (by unfold wpG at h; exact h.elim)
  | I, o :: l, [], i, ks, a, h, hV => (by unfold wpG at h; exact h.elim)
  | I, o :: l, c :: cs, i, ks, a, h, hV => by
    simp only [wpG] at h
    obtain ⟨h1, h2⟩ := h
    have hS := hV 0 o c (by simp) (by simp)
    rw [opn_zero] at hS
    have ih := wpG_unroll (invG I c) l cs (i + 1) _ (a.put o.dst (V i)) (h2 _ hS) (fun k o' c' ho hk => by
      have := hV (k + 1) o' c' (by simpa using ho) (by simpa using hk)
      rw [opn_succ] at this
      simpa [Nat.add_assoc, Nat.add_comm 1 k] using this)
    have bars : ∀ n, noBarG cs n → ∀ (b : Nat) (cb : GC), 0 < b → b < n + 1 → (c :: cs)[b]? = some cb → cb.c.mode ≠ 3 := fun n hn b cb h1 h2 h3 => by
      obtain ⟨b, rfl⟩ : ∃ b', b = b' + 1 := ⟨b - 1, by omega⟩
      exact hn b cb (by omega) (by simpa using h3)
    have bars' : ∀ n, noBarG cs n → c.c.mode ≠ 3 → noBarG (c :: cs) (n + 1) := fun n hn hc b cb h2 h3 => by
      cases b with
      | zero => simp at h3; subst h3; exact hc
      | succ b => exact hn b cb (by omega) (by simpa using h3)
    refine ⟨fun j o' hj => ?_, fun w hb hk hks => ?_⟩
    · cases j with
      | zero =>
        simp only [List.getElem?_cons_zero, Option.some.injEq] at hj
        subst hj
        refine ⟨c, ks, by simp, ?_, fun w _ hk => hk fun b cb h1 => by omega⟩
        rw [puts_none (o :: l) i a fun k hk => by simpa using hk]
        exact h1
      | succ j =>
        simp only [List.getElem?_cons_succ] at hj
        have e : i + (j + 1) = i + 1 + j := by omega
        have ep : puts V (fun k => decide (k < i + (j + 1))) (o :: l) i a = puts V (fun k => decide (k < i + 1 + j)) l (i + 1) (a.put o.dst (V i)) := by
          simp only [puts, e, show i < i + 1 + j by omega, decide_true, if_true]
        obtain ⟨c', ks', g1, g2, g3⟩ := ih.1 j o' hj
        refine ⟨c', ks', by simpa using g1, by rw [ep]; exact g2, fun w hw hk => g3 w (standsG_tail hw) fun hn => ?_⟩
        refine nextG_dep (fun hd => ?_) fun hc => hk (bars' _ hn hc)
        have := hw 0 o c (by omega) (by simp) (by simp) (by simpa using hd) (bars _ hn)
        rw [opx_zero] at this
        exact this
    · simp only [puts, if_true]
      refine ih.2 w hb (standsG_tail hk) fun hn => ?_
      refine nextG_all ?_ fun hc => hks (bars' _ hn hc)
      have := hk 0 o c (by simp) (by simp) (by simp) trivial (bars _ hn)
      rw [opx_zero] at this
      exact this
/-- What turns memory stands apart from all that asks the world. -/
def barG (ops : Array Oper) (ms : List Nat) : Bool := (List.range ops.size).all fun i => !(ms[i]? == some 3) || (List.range ops.size).all fun j => j == i || (ms[j]? == some 0) || (ms[j]? == some 4) ||
  (decide (j < i) && reachB ops 6 i j) || (decide (i < j) && reachB ops 6 j i)
theorem barG_spec {cs : List GC} (h : barG ops (cs.map (·.c.mode)) = true) {i j : Nat} {oi oj : Oper} {ci cj : GC} (hi : ops[i]? = some oi) (hj : ops[j]? = some oj) (hci : cs[i]? = some ci) (hcj : cs[j]? = some cj) (h2 : ci.c.mode = 3) (h0 : cj.c.mode ≠ 0) (h4 : cj.c.mode ≠ 4) (hne : j ≠ i) :
    (j < i ∧ reachB ops 6 i j = true) ∨ (i < j ∧ reachB ops 6 j i = true) := by
  have hlti : i < ops.size := (Array.getElem?_eq_some_iff.1 hi).1
  have hltj : j < ops.size := (Array.getElem?_eq_some_iff.1 hj).1
  have := List.all_eq_true.1 h i (List.mem_range.2 hlti)
  simp only [List.getElem?_map, hci, Option.map_some, h2, BEq.rfl, Bool.not_true, Bool.false_or] at this
  have := List.all_eq_true.1 this j (List.mem_range.2 hltj)
  simp only [hi, hj, hcj, Option.map_some, Option.getD_some, Bool.or_eq_true, Bool.and_eq_true, decide_eq_true_eq, beq_iff_eq, Option.some.injEq] at this
  rcases this with (((h | h) | h) | h) | h
  · exact absurd h hne
  · exact absurd h h0
  · exact absurd h h4
  · exact .inl h
  · exact .inr h
variable {cs : List GC} {a0 : Act}
theorem wpAny_planG (I0 : World → Prop) (hI0 : ∀ w w', I0 w → Below w.heap.size w w' → I0 w') (hF0 : ∀ w, I0 w → F w) (hFs : ∀ g ∈ cs, g.c.mode = 3 → ∀ w, g.I w → F w)
    (hB : planB ops = true) (hbar : barG ops (cs.map (·.c.mode)) = true) (hlen : cs.length = ops.size) (hw : wpG P ops Q F I0 ops.toList cs 0 [] a0) :
    ∀ (fuel : Nat) (listed : Array Bool) (a : Act) (w : World) (V : Nat → Value), listed.size = ops.size →
      (∀ (k : Nat) (o : Oper) (c : GC), listed.getD k false = true → ops[k]? = some o → cs[k]? = some c → c.c.S (opn V ops.toList 0 a0 k o) (V k)) →
      a = puts V (fun k => listed.getD k false) ops.toList 0 a0 →
      (∃ p, p ≤ cs.length ∧ (∀ k g, cs[k]? = some g → g.c.mode = 3 → (listed.getD k false = true ↔ k < p)) ∧ Iat I0 cs p w) →
      (∀ (k : Nat) (o : Oper) (c : GC), listed.getD k false = true → ops[k]? = some o → cs[k]? = some c → (∀ (b : Nat) (cb : GC), k < b → cs[b]? = some cb → listed.getD b false = true → cb.c.mode ≠ 3) → c.c.K (opx ops V ops.toList 0 a0 k o) (V k) w) →
      (∀ j o, ops[j]? = some o → listed.getD j false = true → ∀ k, depB o k = true → listed.getD k false = true) →
      cnt (fun k => listed.getD k false) ops.size ≤ fuel → wpAny P .any ops Q fuel listed a w := by
  obtain ⟨hsel, hpl⟩ := planB_spec hB
  have full : ∀ (listed : Array Bool) (a : Act) (w : World) (V : Nat → Value),
      (∀ (k : Nat) (o : Oper) (c : GC), listed.getD k false = true → ops[k]? = some o → cs[k]? = some c → c.c.S (opn V ops.toList 0 a0 k o) (V k)) → a = puts V (fun k => listed.getD k false) ops.toList 0 a0 →
      (∃ p, p ≤ cs.length ∧ (∀ k g, cs[k]? = some g → g.c.mode = 3 → (listed.getD k false = true ↔ k < p)) ∧ Iat I0 cs p w) →
      (∀ (k : Nat) (o : Oper) (c : GC), listed.getD k false = true → ops[k]? = some o → cs[k]? = some c → (∀ (b : Nat) (cb : GC), k < b → cs[b]? = some cb → listed.getD b false = true → cb.c.mode ≠ 3) → c.c.K (opx ops V ops.toList 0 a0 k o) (V k) w) →
      (∀ j, j < ops.size → listed.getD j false = true) → Q .normal a w := by
    intro listed a w V hV ha hb hK hall
    have hI : Iat I0 cs cs.length w := by
      obtain ⟨p, hp, h1, h2⟩ := hb
      have := Iat_over I0 cs (cs.length - p) p (fun k g hpk _ hg hm => by
        have hk := (h1 k g hg hm).1 (hall k (by have := (List.getElem?_eq_some_iff.1 hg).1; omega))
        omega) (by omega)
      rw [show p + (cs.length - p) = cs.length by omega] at this
      rw [this]; exact h2
    have := (wpG_unroll (V := V) I0 ops.toList cs 0 [] a0 hw (fun k o c ho hk => by
      have ho' : ops[k]? = some o := by simpa using ho
      simpa using hV k o c (hall k (Array.getElem?_eq_some_iff.1 ho').1) ho' hk)).2 w hI
      (fun k o c hlt ho hk _ hnb => by
        have ho' : ops[k]? = some o := by simpa using ho
        have := hK k o c (hall k (by omega)) ho' hk (fun b cb h1 h2 h3 => hnb b cb h1 (List.getElem?_eq_some_iff.1 h2).1 h2)
        simpa using this) (fun _ => trivial)
    rw [ha, puts_congr (V' := V) (D' := fun _ => true) ops.toList 0 a0 fun k _ h2 => ⟨hall k (by simpa using h2), fun _ => rfl⟩]
    exact this
  intro fuel
  induction fuel with
  | zero =>
    intro listed a w V hsz hV ha hb hK hdown hcnt
    have hall := cnt_zero (Nat.le_zero.1 hcnt)
    refine ⟨?_, full listed a w V hV ha hb hK hall⟩
    refine List.eq_nil_iff_forall_not_mem.2 fun j hj => ?_
    obtain ⟨h0, o, ho, _⟩ := mem_ready.1 hj
    have hlt : j < ops.size := (Array.getElem?_eq_some_iff.1 ho).1
    have := hall j hlt
    simp only [Array.getD_eq_getD_getElem?] at h0 this
    rw [Array.getElem?_eq_getElem (by omega)] at h0 this
    simp at h0 this
    rw [h0] at this; cases this
  | succ fuel ih =>
    intro listed a w V hsz hV ha hb hK hdown hcnt
    have conv : ∀ j, j < ops.size → listed.getD j true = listed.getD j false := fun j hj => by
      simp only [Array.getD_eq_getD_getElem?]
      rw [Array.getElem?_eq_getElem (by omega)]; rfl
    refine ⟨fun hnil => ?_, fun i hi => ?_⟩
    · have hall : ∀ j, j < ops.size → listed.getD j false = true := by
        intro j
        induction j using Nat.strongRecOn with
        | ind j ihj =>
          intro hj
          cases hl : listed.getD j false with
          | true => rfl
          | false =>
            have : j ∈ Region.ready .any ops listed := mem_ready.2 ⟨by rw [conv j hj]; exact hl, ops[j], Array.getElem?_eq_getElem hj, fun e he hbd => by
              have hd : depB ops[j] e.on = true := by
                rw [depB_iff]
                obtain ⟨k, hk, rfl⟩ := Array.mem_iff_getElem.1 he
                exact ⟨k, hk, by simp [hbd]⟩
              have hlt := (hpl j ops[j] (Array.getElem?_eq_getElem hj)).1 _ hd
              exact ihj _ hlt (by omega)⟩
            rw [hnil] at this; cases this
      exact full listed a w V hV ha hb hK hall
    · obtain ⟨h0, o, ho, hafter⟩ := mem_ready.1 hi
      have hlt : i < ops.size := (Array.getElem?_eq_some_iff.1 ho).1
      have h0' : listed.getD i false = false := by rw [← conv i hlt]; exact h0
      have hdeps : ∀ k, depB o k = true → listed.getD k false = true := fun k hk => by
        rw [depB_iff] at hk
        obtain ⟨q, hq, hk⟩ := hk
        simp only [Bool.and_eq_true, beq_iff_eq] at hk
        have := hafter o.after[q] (Array.getElem_mem hq) hk.2
        rw [hk.1] at this; exact this
      have hgo : ∀ j, (listed.setIfInBounds i true).getD j false = (j == i || listed.getD j false) := fun j => by
        by_cases hji : j = i
        · subst hji; simp [show j < listed.size by omega]
        · rw [getD_set_ne false (fun e => hji e.symm)]; simp [hji]
      obtain ⟨V1, hV1, hval0⟩ := extend (cs := cs.map (·.c)) (a0 := a0) hB V (fun k => listed.getD k false) hdown (fun k o c h1 h2 h3 => by
        rw [List.getElem?_map] at h3
        obtain ⟨g, hg, rfl⟩ := Option.map_eq_some_iff.1 h3
        exact hV k o g h1 h2 hg)
      have hval : validG V1 ops.toList cs 0 a0 := fun k o g h1 h2 => hval0 k o g.c h1 (by rw [List.getElem?_map, h2]; rfl)
      have hlook : ∀ t ∈ o.looksAt ops, (puts V1 (fun k => decide (k < 0 + i)) ops.toList 0 a0).tmps[t]? = a.tmps[t]? := fun t ht => by
        rw [ha]
        refine puts_look ops.toList 0 a0 a0 (fun k ok hk hd => ?_) rfl
        have hk' : ops[k]? = some ok := by simpa using hk
        simp only [Nat.zero_add]
        rcases ((hpl i o ho).2 k ok t hk' hd).1 ht with hdep | ⟨hik, hdep⟩
        · have h1 := (hpl i o ho).1 k hdep
          have h2 := hdeps k hdep
          exact ⟨by rw [h2]; simpa using h1, fun _ => hV1 k h2⟩
        · refine ⟨?_, fun hD => by simp at hD; omega⟩
          cases hl : listed.getD k false with
          | false => simp; omega
          | true => have := hdown k ok hk' hl i hdep; rw [h0'] at this; cases this
      obtain ⟨he, hwn⟩ := exec_look (ops := ops) (hsel i o · · ho) hlook
      have hoa : o.op.operands.toList.map (puts V1 (fun k => decide (k < 0 + i)) ops.toList 0 a0).eval = opn V ops.toList 0 a0 i o := opn_congr (V' := V) hB ho fun j hj => hV1 j (hdeps j hj)
      have hoax : oargs ops o (puts V1 (fun k => decide (k < 0 + i)) ops.toList 0 a0) = opx ops V ops.toList 0 a0 i o := opx_congr (V' := V) hB ho fun j hj => hV1 j (hdeps j hj)
      obtain ⟨c, ks', g1, g2, g3⟩ := (wpG_unroll (V := V1) I0 ops.toList cs 0 [] a0 hw hval).1 i o (by simpa using ho)
      have hi' : i < cs.length := (List.getElem?_eq_some_iff.1 g1).1
      have hks : c.c.mode ≠ 0 → c.c.mode ≠ 4 → depK o ks' w := fun hm0 hm4 => g3 w (fun k ok ck hki hok hck hd hnb => by
          have hok' : ops[k]? = some ok := by simpa using hok
          have hd' : depB o k = true := by simpa using hd
          have hDk := hdeps k hd'
          have := hK k ok ck hDk hok' hck (fun b cb hkb hcb hDb hm => by
            have hbl : b < cs.length := (List.getElem?_eq_some_iff.1 hcb).1
            have hob : ops[b]? = some ops[b] := Array.getElem?_eq_getElem (by omega)
            by_cases hbi : b < i
            · exact hnb b cb hkb hbi hcb hm
            · have hbne : i ≠ b := by rintro rfl; rw [h0'] at hDb; cases hDb
              rcases barG_spec hbar hob ho hcb g1 hm hm0 hm4 hbne with ⟨_, h⟩ | ⟨h, _⟩
              · have := reachB_down (D := fun k => listed.getD k false) hdown 6 b i h hDb
                rw [h0'] at this; cases this
              · omega)
          rw [opx_congr (V' := V) hB hok' fun j hj => hV1 j (hdown k ok hok' hDk j hj)]
          simpa [hV1 k hDk] using this) (fun _ => trivial)
      obtain ⟨p, hp, hp1, hp2⟩ := hb
      have hFw : F w := Iat_float hF0 cs p w hFs hp2
      /- ahead of an operation that asks the world those that turn memory are done just as far as the text -/
      have hbefore : c.c.mode ≠ 0 → c.c.mode ≠ 4 → ∀ k g, cs[k]? = some g → g.c.mode = 3 → (listed.getD k false = true ↔ k < i) := fun hm0 hm4 k g hg hm => by
        have hkl : k < cs.length := (List.getElem?_eq_some_iff.1 hg).1
        have hok : ops[k]? = some ops[k] := Array.getElem?_eq_getElem (by omega)
        constructor
        · intro hl
          rcases Nat.lt_or_ge k i with h | h
          · exact h
          · have hne : i ≠ k := by rintro rfl; rw [h0'] at hl; cases hl
            rcases barG_spec hbar hok ho hg g1 hm hm0 hm4 hne with ⟨_, h'⟩ | ⟨h', _⟩
            · have := reachB_down (D := fun k => listed.getD k false) hdown 6 k i h' hl
              rw [h0'] at this; cases this
            · omega
        · intro hki
          rcases barG_spec hbar hok ho hg g1 hm hm0 hm4 (by omega) with ⟨h', _⟩ | ⟨_, h'⟩
          · omega
          · unfold reachB at h'
            rw [ho] at h'
            simp only [Bool.or_eq_true] at h'
            rcases h' with h' | h'
            · exact hdeps k h'
            · obtain ⟨q, _, hq⟩ := List.any_eq_true.1 h'
              rw [Bool.and_eq_true] at hq
              exact reachB_down (D := fun k => listed.getD k false) hdown 5 q k hq.2 (hdeps q hq.1)
      have hIat : c.c.mode ≠ 0 → c.c.mode ≠ 4 → Iat I0 cs i w := fun hm0 hm4 => by
        have hb' := hbefore hm0 hm4
        rcases Nat.lt_or_ge p i with h | h
        · have := Iat_over I0 cs (i - p) p (fun k g h1 h2 hg hm => by
            have := (hp1 k g hg hm).1 ((hb' k g hg hm).2 (by omega)); omega) (by omega)
          rw [show p + (i - p) = i by omega] at this
          rw [this]; exact hp2
        · have := Iat_over I0 cs (p - i) i (fun k g h1 h2 hg hm => by
            have := (hb' k g hg hm).1 ((hp1 k g hg hm).2 (by omega)); omega) (by omega)
          rw [show i + (p - i) = p by omega] at this
          rw [← this]; exact hp2
      have next : ∀ u w', (c.c.mode ≠ 3 → Below w.heap.size w w') ∧ (c.c.mode = 3 → c.I w') ∧ c.c.S (opn V ops.toList 0 a0 i o) u ∧ c.c.K (opx ops V ops.toList 0 a0 i o) u w' → wpAny P .any ops Q fuel (listed.setIfInBounds i true) (a.put o.dst u) w' := by
          rintro u w' ⟨hbl, hbW, hSu, hKu⟩
          have opnU : ∀ k ok, ops[k]? = some ok → (k = i ∨ listed.getD k false = true) → opn (fun q => if q = i then u else V q) ops.toList 0 a0 k ok = opn V ops.toList 0 a0 k ok := fun k ok hok hk =>
            opn_congr hB hok fun j hj => by
              have : j ≠ i := by
                rintro rfl
                rcases hk with rfl | hk
                · have := (hpl k ok hok).1 k hj; omega
                · have := hdown k ok hok hk j hj
                  rw [h0'] at this; cases this
              simp [this]
          have opxU : ∀ k ok, ops[k]? = some ok → (k = i ∨ listed.getD k false = true) → opx ops (fun q => if q = i then u else V q) ops.toList 0 a0 k ok = opx ops V ops.toList 0 a0 k ok := fun k ok hok hk =>
            opx_congr hB hok fun j hj => by
              have : j ≠ i := by
                rintro rfl
                rcases hk with rfl | hk
                · have := (hpl k ok hok).1 k hj; omega
                · have := hdown k ok hok hk j hj
                  rw [h0'] at this; cases this
              simp [this]
          refine ih (listed.setIfInBounds i true) _ w' (fun k => if k = i then u else V k) (by simpa using hsz) (fun k ok c' hl hok hk => ?_) ?_ ?_ (fun k ok c' hl hok hk hnb => ?_) (fun j oj hj hl k hd => ?_) ?_
          · rw [hgo] at hl
            by_cases hki : k = i
            · subst hki
              rw [hk] at g1; cases g1
              rw [hok] at ho; cases ho
              rw [opnU k _ hok (.inl rfl)]
              simpa using hSu
            · have hl : listed.getD k false = true := by simpa [hki] using hl
              rw [opnU k ok hok (.inr hl)]
              simpa [hki] using hV k ok c' hl hok hk
          · rw [ha, puts_put ops.toList 0 i a0 (by simpa using ho) (by simpa using h0') (fun k o' hk hne d hd => ?_)]
            · exact puts_congr ops.toList 0 a0 fun k _ _ => ⟨by simp only [Nat.zero_add]; exact (hgo k).symm, fun _ => by simp⟩
            · exact ((hpl k o' (by simpa using hk)).2 i o d ho hd).2 hne
          · by_cases hm3 : c.c.mode = 3
            · refine ⟨i + 1, by omega, fun k g hg hm => ?_, ?_⟩
              · rw [hgo]
                have := hbefore (by omega) (by omega) k g hg hm
                by_cases hki : k = i
                · subst hki; simp
                · simp only [beq_iff_eq, hki, Bool.or_eq_true, false_or]
                  rw [this]; omega
              · rw [Iat_succ _ _ _ _ g1, invG_eq hm3]; exact hbW hm3
            · refine ⟨p, hp, fun k g hg hm => ?_, Iat_kept hI0 cs p w w' hp2 (hbl hm3)⟩
              rw [hgo]
              by_cases hki : k = i
              · subst hki
                rw [hg] at g1; cases g1
                exact absurd hm hm3
              · simp only [beq_iff_eq, hki, Bool.or_eq_true, false_or]
                exact hp1 k g hg hm
          · by_cases hki : k = i
            · subst hki
              rw [hk] at g1; cases g1
              rw [hok] at ho; cases ho
              rw [opxU k _ hok (.inl rfl)]
              simpa using hKu
            · rw [hgo] at hl
              have hl : listed.getD k false = true := by simpa [hki] using hl
              rw [opxU k ok hok (.inr hl)]
              simp only [if_neg hki]
              by_cases hm0 : c'.c.mode = 0
              · exact c'.c.quiet hm0 _ _ _
              · by_cases hm4 : c'.c.mode = 4
                · obtain ⟨c4, ks4, q1, q2, _⟩ := (wpG_unroll (V := V1) I0 ops.toList cs 0 [] a0 hw hval).1 k ok (by simpa using hok)
                  rw [hk] at q1; cases q1
                  rcases q2 with ⟨_, _, _, q4, _⟩ | ⟨_, q0, _⟩
                  · exact (q4 hm4).1 _ _ _
                  · exact absurd q0 hm0
                · by_cases hm2 : c.c.mode = 3
                  · exfalso
                    rcases barG_spec hbar ho hok g1 hk hm2 hm0 hm4 hki with ⟨h, _⟩ | ⟨_, h⟩
                    · exact hnb i c h g1 (by rw [hgo]; simp) hm2
                    · have := reachB_down (D := fun k => listed.getD k false) hdown 6 k i h hl
                      rw [h0'] at this; cases this
                  · exact c'.c.keeps _ _ _ _ (hK k ok c' hl hok hk fun b cb h1 h2 h3 => hnb b cb h1 h2 (by rw [hgo, h3]; simp)) (hbl hm2)
          · rw [hgo] at hl ⊢
            by_cases hji : j = i
            · subst hji
              rw [hj] at ho; cases ho
              rw [hdeps k hd]; simp
            · have : listed.getD j false = true := by simpa [hji] using hl
              rw [hdown j oj hj this k hd]; simp
          · have := cnt_set (f := fun k => listed.getD k false) (g := fun k => (listed.setIfInBounds i true).getD k false) (i := i) h0' (by simp only [hgo]; simp) (fun j hj => by simp only [hgo]; simp [hj]) hlt
            omega
      unfold wpOp
      simp only [ho]
      unfold stepG at g2
      rw [hoa, hoax] at g2
      rcases g2 with ⟨k1, km, k0, k4, k5, k3⟩ | ⟨k1, k2, k3⟩
      · rw [← hwn, k1, if_pos rfl]
        rcases km with hm | hm | hm | hm
        · refine .inl (uponC_op (T := fun u w' => (∃ n, w' = w.drewN n) ∧ c.c.S (opn V ops.toList 0 a0 i o) u) (fun u w' hT => ?_) ?_)
          · obtain ⟨⟨n, rfl⟩, hS⟩ := hT
            exact next u _ ⟨fun _ => below_drewN (Below.refl _ _) _, fun h => by omega, hS, c.c.quiet hm _ _ _⟩
          · rw [← he]; exact k0 hm w
        · refine .inl (uponC_op (T := fun u w' => Below w.heap.size w w' ∧ c.c.S (opn V ops.toList 0 a0 i o) u ∧ c.c.K (opx ops V ops.toList 0 a0 i o) u w') (fun u w' hT => next u w' ⟨fun _ => hT.1, fun h => by omega, hT.2⟩) ?_)
          rw [← he]; exact k5 hm w (hIat (by omega) (by omega)) (hks (by omega) (by omega))
        · refine .inl (uponC_op (T := fun u w' => c.I w' ∧ c.c.S (opn V ops.toList 0 a0 i o) u ∧ c.c.K (opx ops V ops.toList 0 a0 i o) u w') (fun u w' hT => next u w' ⟨fun h => absurd hm h, fun _ => hT.1, hT.2⟩) ?_)
          rw [← he]; exact k3 hm w (hIat (by omega) (by omega)) (hks (by omega) (by omega))
        · refine .inl (uponC_op (T := fun u w' => Below w.heap.size w w' ∧ c.c.S (opn V ops.toList 0 a0 i o) u) (fun u w' hT => next u w' ⟨fun _ => hT.1, fun h => by omega, hT.2, (k4 hm).1 _ _ _⟩) ?_)
          rw [← he]; exact (k4 hm).2 w hFw
      · rw [← hwn, k1, if_neg (by simp)]
        exact next undef w ⟨fun _ => Below.refl _ _, fun h => by omega, k3, c.c.quiet k2 _ _ _⟩
/-- What always holds follows from each operation that turns memory. -/
def allF (F : World → Prop) : List GC → Prop
  | [] => True
  | g :: cs => (match g.c.mode with | 3 => ∀ w, g.I w → F w | _ => True) ∧ allF F cs
theorem allF_mem {F : World → Prop} : ∀ {cs : List GC}, allF F cs → ∀ g ∈ cs, g.c.mode = 3 → ∀ w, g.I w → F w
  | [], _, g, hg, _, _, _ => by cases hg
  | g' :: cs, h, g, hg, hm, w, hw => by
    rcases List.mem_cons.1 hg with rfl | hg
    · have h1 := h.1
      rw [hm] at h1
      exact h1 w hw
    · exact allF_mem h.2 g hg hm w hw
/-- ONE WALK OF THE ORDER OF THE TEXT SERVES EVERY ORDER. -/
theorem wp_region_planG {id : Nat} {a : Act} {W : World} {l : List Oper} {cs : List GC} (I0 : World → Prop) (hI0 : ∀ w w', I0 w → Below w.heap.size w w' → I0 w') (hW : I0 W) (hF0 : ∀ w, I0 w → F w)
    (hw : wpG P l.toArray Q F I0 l cs 0 [] a) (hFs : allF F cs) (hpr1 : P.follows .mixedOrders = true) (hpr2 : planB l.toArray = true) (hpr3 : barG l.toArray (cs.map (·.c.mode)) = true) (hlen : cs.length = l.length) : (Code.region id l.toArray true).wp P Q a W := by
  have hsz : l.toArray.size = l.length := by simp
  refine wp_region_any hpr1 ?_
  refine wpAny_planG (cs := cs) (a0 := a) I0 hI0 hF0 (allF_mem hFs) hpr2 hpr3 (by omega) (by simpa using hw) _ _ _ _ (fun _ => undef) (by simp) ?_ ?_ ?_ ?_ ?_ ?_
  · intro k o c hl
    exfalso
    simp only [Array.getD_eq_getD_getElem?] at hl
    by_cases hk : k < l.length <;> simp [hk] at hl
  · refine (puts_none _ _ _ fun k _ => ?_).symm
    simp only [Array.getD_eq_getD_getElem?]
    by_cases hk : k < l.length <;> simp [hk]
  · refine ⟨0, Nat.zero_le _, fun k g _ _ => ?_, ?_⟩
    · simp only [Array.getD_eq_getD_getElem?]
      by_cases hk : k < l.length <;> simp [hk]
    · rw [Iat_zero]; exact hI0 W _ hW ((Below.refl _ _).drew)
  · intro k o c hl
    exfalso
    simp only [Array.getD_eq_getD_getElem?] at hl
    by_cases hk : k < l.length <;> simp [hk] at hl
  · intro j o _ hl
    exfalso
    simp only [Array.getD_eq_getD_getElem?] at hl
    by_cases hk : j < l.length <;> simp [hk] at hl
  · have : ∀ (f : Nat → Bool) (n : Nat), cnt f n ≤ n := by
      intro f n
      induction n with
      | zero => exact Nat.le_refl _
      | succ n ih => simp only [cnt]; split <;> omega
    exact this _ _
end
section
variable {P : Program} {ops : Array Oper} {Q : Exit → Act → World → Prop} {F I : World → Prop} {l : List Oper} {cs : List GC} {i : Nat} {ks : List (Nat × (World → Prop))} {a : Act} {o : Oper}
theorem wpG_norm {a' : Act} (ha : a = a') (h : wpG P ops Q F I l cs i ks a') : wpG P ops Q F I l cs i ks a := ha ▸ h
theorem wpG_nil (h : ∀ w, I w → allK ks w → Q .normal a w) : wpG P ops Q F I [] [] i ks a := h
theorem wpG_pure (c : Clm) (hm : c.mode = 0) (hw : Region.wanted o (yielded ops a.tmps) = true) (h0 : ∀ w, uponC P (fun u w' => (∃ n, w' = w.drewN n) ∧ c.S (o.op.operands.toList.map a.eval) u) ((execOp a.eval o).run P w))
    (h : ∀ v, c.S (o.op.operands.toList.map a.eval) v → wpG P ops Q F I l cs (i + 1) ks (a.put o.dst v)) : wpG P ops Q F I (o :: l) (GC.of c :: cs) i ks a := by
  simp only [wpG]
  refine ⟨.inl ⟨hw, .inl hm, fun _ => h0, fun h => ?_, fun h => ?_, fun h => ?_⟩, fun v hv => ?_⟩
  · have : c.mode = 4 := h; omega
  · have : c.mode = 1 := h; omega
  · have : c.mode = 3 := h; omega
  · have e1 : invG I (GC.of c) = I := invG_ne (by show c.mode ≠ 3; omega)
    have e2 : nextG (GC.of c).c i ((GC.of c).c.K (oargs ops o a) v) ks = ks := by
      show nextG c i _ ks = ks
      unfold nextG
      split
      · rfl
      · rfl
      · omega
      · rename_i h0 _ _; exact absurd hm h0
    rw [e1, e2]; exact h v hv
theorem wpG_det (v : Value) (hw : Region.wanted o (yielded ops a.tmps) = true) (hs : ∀ cs b, o.op ≠ .select cs b) (h1 : ∀ w, (execOp a.eval o).run P w = .ok (.value v) w)
    (h : wpG P ops Q F I l cs (i + 1) ks (a.put o.dst v)) : wpG P ops Q F I (o :: l) (GC.of (Clm.det P o) :: cs) i ks a := by
  have hp : PureAt P o (o.op.operands.toList.map a.eval) v := ⟨⟨a, rfl⟩, fun a' w he => by
    rw [execOp_congr (ρ := a'.eval) (ρ' := a.eval) o hs fun x hx => ?_]
    · exact h1 w
    · have := List.map_inj_left.1 he x (by simpa using hx)
      exact this⟩
  refine wpG_pure (Clm.det P o) rfl hw (fun w => ?_) fun u hu => ?_
  · rw [h1 w]; exact ⟨⟨0, rfl⟩, fun u hu => hp.uniq hu⟩
  · rw [hu v hp]; exact h
theorem wpG_fop {op : BinOp} {t t' : TypeId} {X Y : Operand} (ho : o.op = .binOp op t X Y t') (hop : arithOp op = true) {k : FloatKind} {x y : Nat} (hx : a.eval X = .float k x) (hy : a.eval Y = .float k y) (hw : Region.wanted o (yielded ops a.tmps) = true)
    (h : ∀ r, (∀ cx cy, cn k x = cx → cn k y = cy → cn k r = Go.Proofs.Ytpnkapdemgieaaa.fop op k cx cy) → wpG P ops Q F I l cs (i + 1) ks (a.put o.dst (.float k r))) : wpG P ops Q F I (o :: l) (GC.of (Clm.fop op) :: cs) i ks a := by
  have hl : o.op.operands.toList.map a.eval = [.float k x, .float k y] := by rw [ho]; simp [Op.operands, hx, hy]
  refine wpG_pure (Clm.fop op) rfl hw (fun w => ?_) fun u hu => ?_
  · obtain ⟨r, n, h1, h2⟩ := run_exec_fop (P := P) op hop t t' X Y ho k x y hx hy w
    rw [h1, hl]
    refine ⟨⟨n, rfl⟩, fun k' p' q' e => ?_⟩
    simp only [List.cons.injEq, Value.float.injEq, and_true] at e
    obtain ⟨⟨rfl, rfl⟩, _, rfl⟩ := e
    exact ⟨r, rfl, h2⟩
  · rw [hl] at hu
    obtain ⟨r, rfl, hr⟩ := hu k x y rfl
    exact h r (by rintro cx cy rfl rfl; exact hr)
theorem wpG_one (c : Clm) (hm : c.mode = 1) (hw : Region.wanted o (yielded ops a.tmps) = true) (h1 : ∀ w, I w → depK o ks w → uponC P (fun u w' => Below w.heap.size w w' ∧ c.S (o.op.operands.toList.map a.eval) u ∧ c.K (oargs ops o a) u w') ((execOp a.eval o).run P w))
    (h : ∀ v, c.S (o.op.operands.toList.map a.eval) v → wpG P ops Q F I l cs (i + 1) ((i, c.K (oargs ops o a) v) :: ks) (a.put o.dst v)) : wpG P ops Q F I (o :: l) (GC.of c :: cs) i ks a := by
  simp only [wpG]
  refine ⟨.inl ⟨hw, .inr (.inl hm), fun h => ?_, fun h => ?_, fun _ => h1, fun h => ?_⟩, fun v hv => ?_⟩
  · have : c.mode = 0 := h; omega
  · have : c.mode = 4 := h; omega
  · have : c.mode = 3 := h; omega
  · have e1 : invG I (GC.of c) = I := invG_ne (by show c.mode ≠ 3; omega)
    have e2 : nextG (GC.of c).c i ((GC.of c).c.K (oargs ops o a) v) ks = (i, c.K (oargs ops o a) v) :: ks := by
      show nextG c i _ ks = _
      unfold nextG
      split <;> first | omega | rfl
    rw [e1, e2]; exact h v hv
theorem wpG_val (v : Value) (hw : Region.wanted o (yielded ops a.tmps) = true) (h1 : ∀ w, I w → depK o ks w → (execOp a.eval o).run P w = .ok (.value v) w)
    (h : wpG P ops Q F I l cs (i + 1) ((i, fun _ => True) :: ks) (a.put o.dst v)) : wpG P ops Q F I (o :: l) (GC.of (Clm.one v) :: cs) i ks a := by
  refine wpG_one (Clm.one v) rfl hw (fun w hi hk => ?_) fun u hu => ?_
  · rw [h1 w hi hk]; exact ⟨Below.refl _ _, rfl, trivial⟩
  · have hu : u = v := hu
    subst hu; exact h
/-- A load of what never turns. -/
def Clm.any (v : Value) : Clm := ⟨4, fun _ u => u = v, fun _ _ _ => True, fun _ => ⟨v, rfl⟩, fun _ _ _ _ _ _ => trivial, fun h => nomatch h⟩
theorem wpG_any (v : Value) (hw : Region.wanted o (yielded ops a.tmps) = true) (h1 : ∀ w, F w → (execOp a.eval o).run P w = .ok (.value v) w)
    (h : wpG P ops Q F I l cs (i + 1) ks (a.put o.dst v)) : wpG P ops Q F I (o :: l) (GC.of (Clm.any v) :: cs) i ks a := by
  simp only [wpG]
  refine ⟨.inl ⟨hw, .inr (.inr (.inr rfl)), fun h => absurd (show (4 : Nat) = 0 from h) (by decide), fun _ => ⟨fun _ _ _ => trivial, fun w hF => ?_⟩, fun h => absurd (show (4 : Nat) = 1 from h) (by decide), fun h => absurd (show (4 : Nat) = 3 from h) (by decide)⟩, fun u hu => ?_⟩
  · rw [h1 w hF]; exact ⟨Below.refl _ _, rfl⟩
  · have hu : u = v := hu
    subst hu; exact h
/-- An operation that turns memory, with one value. -/
def GC.turn (v : Value) (I' K : World → Prop) (hI : ∀ w w', I' w → Below w.heap.size w w' → I' w') (hK : ∀ w w', K w → Below w.heap.size w w' → K w') : GC :=
  ⟨⟨3, fun _ u => u = v, fun _ _ w => K w, fun _ => ⟨v, rfl⟩, fun _ _ w w' h hb => hK w w' h hb, fun h => nomatch h⟩, I', hI⟩
/-- A call that turns memory. -/
theorem wpG_turnC (c : Clm) (hm : c.mode = 3) (I' : World → Prop) (hI : ∀ w w', I' w → Below w.heap.size w w' → I' w') (hw : Region.wanted o (yielded ops a.tmps) = true) {f : FuncId} {args : Array Value} (he : ∀ w, (execOp a.eval o).run P w = .ok (.enter f args) w)
    (h1 : ∀ w, I w → depK o ks w → Calls P f args w (fun e w' => ∃ v, e = .returned v ∧ I' w' ∧ c.S (o.op.operands.toList.map a.eval) v ∧ c.K (oargs ops o a) v w'))
    (h : ∀ v, c.S (o.op.operands.toList.map a.eval) v → wpG P ops Q F I' l cs (i + 1) [(i, c.K (oargs ops o a) v)] (a.put o.dst v)) : wpG P ops Q F I (o :: l) (⟨c, I', hI⟩ :: cs) i ks a := by
  simp only [wpG]
  refine ⟨.inl ⟨hw, .inr (.inr (.inl hm)), fun h => ?_, fun h => ?_, fun h => ?_, fun _ w hi hk => ?_⟩, fun v hv => ?_⟩
  · have : c.mode = 0 := h; omega
  · have : c.mode = 4 := h; omega
  · have : c.mode = 1 := h; omega
  · rw [he w]
    exact Calls.mono (h1 w hi hk) fun e w' ⟨v, e1, h2⟩ => ⟨v, e1, h2⟩
  · have e1 : invG I ⟨c, I', hI⟩ = I' := invG_eq hm
    have e2 : nextG c i (c.K (oargs ops o a) v) ks = [(i, c.K (oargs ops o a) v)] := by
      unfold nextG
      split <;> first | omega | exact absurd hm (by assumption) | rfl
    show wpG P ops Q F (invG I ⟨c, I', hI⟩) l cs (i + 1) (nextG c i (c.K (oargs ops o a) v) ks) _
    rw [e1, e2]; exact h v hv
end
attribute [irreducible] wpG
end Go.Proofs.Ytpnkapdemgieaaa
set_option linter.unusedSimpArgs false
set_option linter.unusedVariables false
set_option linter.unusedSectionVars false
namespace Go.Proofs.Ytpnkapdemgieaaa
open Go Go.RowKit
section
variable {P : Program} {ops : Array Oper} {Q : Exit → Act → World → Prop} {F I : World → Prop} {l : List Oper} {cs : List GC} {i : Nat} {ks : List (Nat × (World → Prop))} {a : Act} {o : Oper}
theorem wpG_lit1 {B : Nat} {x : Value} {t : TypeId} (hx : o.op.operands.toList.map a.eval = [x]) (hw : Region.wanted o (yielded ops a.tmps) = true) (hB : ∀ w, I w → B ≤ w.heap.size) (h1 : ∀ w, (execOp a.eval o).run P w = .ok (.value (.slice (some ⟨w.heap.size, 0, none⟩) 1 1)) (w.alloc (.cells #[x] t)))
    (h : ∀ b, wpG P ops Q F I l cs (i + 1) ((i, fun w => B ≤ b ∧ owned w b [x]) :: ks) (a.put o.dst (.slice (some ⟨b, 0, none⟩) 1 1))) : wpG P ops Q F I (o :: l) (GC.of (Clm.lit1 B) :: cs) i ks a := by
  have ht : (oargs ops o a).take 1 = [x] := by unfold oargs; rw [hx]; rfl
  refine wpG_one (Clm.lit1 B) rfl hw (fun w hi hk => ?_) ?_
  · rw [h1 w]
    exact ⟨(Below.refl _ _).alloc (Nat.le_refl _) _, ⟨_, rfl⟩, by show lit1K B ((oargs ops o a).take 1) (.slice (some ⟨w.heap.size, 0, none⟩) 1 1) _; rw [ht]; exact ⟨hB w hi, owned_alloc w [x] t⟩⟩
  · rintro v ⟨b, rfl⟩
    show wpG P ops Q F I l cs (i + 1) ((i, fun w => lit1K B ((oargs ops o a).take 1) (.slice (some ⟨b, 0, none⟩) 1 1) w) :: ks) _
    rw [ht]
    exact h b
/-- An operation that turns memory and gives a value of a class. -/
theorem wpG_turnE (c : Clm) (hm : c.mode = 3) (I' : World → Prop) (hI : ∀ w w', I' w → Below w.heap.size w w' → I' w') (hw : Region.wanted o (yielded ops a.tmps) = true)
    (h1 : ∀ w, I w → depK o ks w → uponC P (fun u w' => I' w' ∧ c.S (o.op.operands.toList.map a.eval) u ∧ c.K (oargs ops o a) u w') ((execOp a.eval o).run P w))
    (h : ∀ v, c.S (o.op.operands.toList.map a.eval) v → wpG P ops Q F I' l cs (i + 1) [(i, c.K (oargs ops o a) v)] (a.put o.dst v)) : wpG P ops Q F I (o :: l) (⟨c, I', hI⟩ :: cs) i ks a := by
  simp only [wpG]
  refine ⟨.inl ⟨hw, .inr (.inr (.inl hm)), fun h => ?_, fun h => ?_, fun h => ?_, fun _ w hi hk => h1 w hi hk⟩, fun v hv => ?_⟩
  · have : c.mode = 0 := h; omega
  · have : c.mode = 4 := h; omega
  · have : c.mode = 1 := h; omega
  · have e1 : invG I ⟨c, I', hI⟩ = I' := invG_eq hm
    have e2 : nextG c i (c.K (oargs ops o a) v) ks = [(i, c.K (oargs ops o a) v)] := by
      unfold nextG
      split <;> first | omega | exact absurd hm (by assumption) | rfl
    show wpG P ops Q F (invG I ⟨c, I', hI⟩) l cs (i + 1) (nextG c i (c.K (oargs ops o a) v) ks) _
    rw [e1, e2]; exact h v hv
/-- A store of a struct: of all that it waited for it tells M anew. -/
def Clm.putM (M : List Value → World → Prop) (hM : Keeps M) : Clm := ⟨3, fun _ u => u = undef, fun x _ w => M x w, fun _ => ⟨undef, rfl⟩, fun x _ w w' h hb => hM x w w' h hb, fun h => nomatch h⟩
theorem wpG_putM {ty : TypeId} {X Y : Operand} {b : Nat} {vs : Array Value} (olds : List Value) (M : List Value → World → Prop) (hM : Keeps M) (I' : World → Prop) (hI : ∀ w w', I' w → Below w.heap.size w w' → I' w') {x0 : List Value} (hox : oargs ops o a = x0) (ho : o.op = .store ty X Y) (hx : a.eval X = .pointer (some ⟨b, 0, none⟩)) (hy : a.eval Y = .agg vs) (hn : olds.length = vs.size)
    (hi : (P.info? ty).map (·.size) = some vs.size) (h2 : vs.toList.all (·.oneCell') = true) (hw : Region.wanted o (yielded ops a.tmps) = true) (hk : ∀ w, I w → owned w b olds) (hI' : ∀ w, I w → depK o ks w → I' (w.setCells b 0 vs.toList) ∧ M x0 (w.setCells b 0 vs.toList))
    (h : wpG P ops Q F I' l cs (i + 1) [(i, M x0)] (a.put o.dst undef)) : wpG P ops Q F I (o :: l) (⟨Clm.putM M hM, I', hI⟩ :: cs) i ks a := by
  have h1 : vs.all (·.oneCell') = true := Array.all_eq_true_iff_forall_mem.2 fun v hv => List.all_eq_true.1 h2 v (by simpa using hv)
  refine wpG_turnE (Clm.putM M hM) rfl I' hI hw (fun w hi' hkw => ?_) (fun u hu => ?_)
  · have hown := hk w hi'
    have ht : w.there b 0 vs.size := fun j hj => by
      have hj' : j < olds.length := by omega
      have := hown j olds[j] (List.getElem?_eq_getElem hj')
      simp only [Nat.zero_add]
      exact ⟨by rw [this.1]; rfl, this.2⟩
    have hr : (execOp a.eval o).run P w = .ok .skip (w.setCells b 0 vs.toList) := by
      unfold execOp
      simp only [ho, hx, hy, Instr.storeAt, Instr.sureAddr, Sem.run_bind, Sem.run_pure, Result.andThen_ok, run_storeVar_mid w b 0 ty vs ht hi h1]
    rw [hr]
    obtain ⟨g1, g2⟩ := hI' w hi' hkw
    exact ⟨g1, rfl, by show M (oargs ops o a) _; rw [hox]; exact g2⟩
  · have hu : u = undef := hu
    subst hu
    show wpG P ops Q F I' l cs (i + 1) [(i, M (oargs ops o a))] _
    rw [hox]; exact h
end
/-- An own slice with a number more; where it lies. -/
def appP (B S : Nat) (g0 : Option Nat) (xs : List Nat) (v : Value) (w : World) : Prop := OF B w v xs ∧ (v.ownBlock = g0 ∨ ∀ k, v.ownBlock = some k → S ≤ k)
theorem appP.later {B S : Nat} {g0 : Option Nat} {xs : List Nat} {v : Value} {w w' : World} (h : appP B S g0 xs v w) (hb : Below w.heap.size w w') : appP B S g0 xs v w' := ⟨h.1.later hb, h.2⟩
def Clm.appG (B S : Nat) (g0 : Option Nat) (xs : List Nat) : Clm := ⟨3, fun _ u => ∃ q c, u = .slice q xs.length c, fun _ u w => appP B S g0 xs u w, fun _ => ⟨_, none, 0, rfl⟩, fun _ _ _ _ h hb => appP.later h hb, fun h => nomatch h⟩
theorem wpG_app {ops : Array Oper} {Q : Exit → Act → World → Prop} {F I : World → Prop} {l : List Oper} {cs : List GC} {i : Nat} {ks : List (Nat × (World → Prop))} {a : Act} {o : Oper} (B S : Nat) (xs : List Nat) (r : Nat) (I' : World → Prop) (hI : ∀ w w', I' w → Below w.heap.size w w' → I' w') {s x : Operand} {v : Value} {b : Nat}
    (ho : o.op = .call { callee := .builtin .append, args := #[s, x], argTypes := #[24, 24] }) (hs : a.eval s = v) (hx : a.eval x = .slice (some ⟨b, 0, .none⟩) 1 1)
    (hw : Region.wanted o (yielded ops a.tmps) = true) (hk : ∀ w, I w → depK o ks w → (OF B w v xs ∧ w.cell? ⟨b, 0, .none⟩ = some (.float .f32 r)) ∧ B ≤ w.heap.size ∧ S ≤ w.heap.size) (hn : xs.length < 1048576)
    (hI' : ∀ w w', I w → w.grownBy w' v.ownBlock → I' w')
    (h : ∀ q c, wpG Try.prog ops Q F I' l cs (i + 1) [(i, fun w => appP B S v.ownBlock (xs ++ [r]) (.slice q (xs ++ [r]).length c) w)] (a.put o.dst (.slice q (xs ++ [r]).length c))) : wpG Try.prog ops Q F I (o :: l) (⟨Clm.appG B S v.ownBlock (xs ++ [r]), I', hI⟩ :: cs) i ks a := by
  obtain ⟨i0, hi, hz0, hz1, hz2⟩ := info_parts Try.infoF32
  refine wpG_turnE (Clm.appG B S v.ownBlock (xs ++ [r])) rfl I' hI hw (fun w hb hd => ?_) ?_
  · obtain ⟨⟨hO, hc⟩, hB, hS⟩ := hk w hb hd
    obtain ⟨v', w', hr, h2, h3, h4, h5⟩ := run_append_own_at (P := Try.prog) w B 24 o.type 28 i0 (.float .f32 0) 1 4 Try.underlying24 hi hz0 hz1 hz2 rfl (by decide) v xs.length (xs.map (Value.float .f32)) hO ⟨b, 0, .none⟩ 1 1 [.float .f32 r] rfl
      (by
        intro j u hj
        match j, hj with
        | 0, hj => simp at hj; subst hj; simpa [Addr.add] using hc
        | j + 1, hj => simp at hj) (by intro u hu; simp at hu; subst hu; rfl) (by unfold maxLen; omega) (by omega) hB
    have hO' : OF B w' v' (xs ++ [r]) := by
      unfold OF
      simpa using h2
    have he : (execOp a.eval o).run Try.prog w = .ok (.value v') w' := by
      unfold execOp
      simp only [ho, resolve, invoke, builtin, Sem.run_bind, Sem.run_pure, Result.andThen_ok, List.map_toArray, List.map_cons, List.map_nil, hs, hx, hr]
    rw [he]
    exact ⟨hI' w w' hb h3, hO'.shape, hO', h5.imp id fun h k hk => by rw [h] at hk; cases hk; exact hS⟩
  · rintro u ⟨q, c, rfl⟩
    exact h q c
end Go.Proofs.Ytpnkapdemgieaaa
set_option linter.unusedSimpArgs false
set_option linter.unusedVariables false
set_option linter.unusedSectionVars false
namespace Go.Proofs.Ytpnkapdemgieaaa
open Go Go.RowKit
open Go.ChangeShapes Go.WideShapes Go.ChangeAt Go.RowKit Go.Joins
theorem calls_named {P : Program} {f : FuncId} {args : Array Value} {w : World} {Q : Ending → World → Prop} (h : ∀ W, W = w → Calls P f args W Q) : Calls P f args w Q := h w rfl
/-- A fact that outlives what is made. -/
def Lat (F : World → Prop) : Prop := ∀ w w', F w → Below w.heap.size w w' → F w'
def Bag (L : List (World → Prop)) (w : World) : Prop := ∀ F ∈ L, Lat F ∧ F w
theorem Bag.nil (w : World) : Bag [] w := fun _ h => nomatch h
section
variable {L : List (World → Prop)} {F : World → Prop} {w w' : World}
theorem Bag.later (h : Bag L w) (hb : Below w.heap.size w w') : Bag L w' := fun F hF => ⟨(h F hF).1, (h F hF).1 _ _ (h F hF).2 hb⟩
theorem Bag.add (h : Bag L w) (l : Lat F) (x : F w) : Bag (F :: L) w := fun G hG => by
  rcases List.mem_cons.1 hG with rfl | hG
  · exact ⟨l, x⟩
  · exact h G hG
theorem Bag.g (h : Bag (F :: L) w) : F w := (h F List.mem_cons_self).2
theorem Bag.t (h : Bag (F :: L) w) : Bag L w := fun G hG => h G (List.mem_cons_of_mem _ hG)
end
/-- Below a world's size nothing has changed. -/
def Bel (w0 : World) (w : World) : Prop := Below w0.heap.size w0 w
theorem Bel.lat (w0 : World) : Lat (Bel w0) := fun _ _ h hb => h.trans (hb.mono h.size)
/-- A variable of four cells. -/
def Var (b : Nat) (v0 v1 v2 v3 : Value) (w : World) : Prop := (w.cell? ⟨b, 0, none⟩ = some v0 ∧ w.cell? ⟨b, 1, none⟩ = some v1 ∧ w.cell? ⟨b, 2, none⟩ = some v2 ∧ w.cell? ⟨b, 3, none⟩ = some v3) ∧ b < w.heap.size
theorem Var.lat (b : Nat) (v0 v1 v2 v3 : Value) : Lat (Var b v0 v1 v2 v3) := fun _ _ h hb => ⟨⟨(hb.cell h.2).trans h.1.1, (hb.cell h.2).trans h.1.2.1, (hb.cell h.2).trans h.1.2.2.1, (hb.cell h.2).trans h.1.2.2.2⟩, Nat.lt_of_lt_of_le h.2 hb.size⟩
/-- A variable of three cells. -/
def Var3 (b : Nat) (v0 v1 v2 : Value) (w : World) : Prop := (w.cell? ⟨b, 0, none⟩ = some v0 ∧ w.cell? ⟨b, 1, none⟩ = some v1 ∧ w.cell? ⟨b, 2, none⟩ = some v2) ∧ b < w.heap.size
theorem Var3.lat (b : Nat) (v0 v1 v2 : Value) : Lat (Var3 b v0 v1 v2) := fun _ _ h hb => ⟨⟨(hb.cell h.2).trans h.1.1, (hb.cell h.2).trans h.1.2.1, (hb.cell h.2).trans h.1.2.2⟩, Nat.lt_of_lt_of_le h.2 hb.size⟩
/-- A list that can be read. -/
def Lst (v : Value) (xs : List Nat) (w : World) : Prop := FS w v xs
theorem Lst.lat (v : Value) (xs : List Nat) : Lat (Lst v xs) := fun _ _ h hb => FS.later h hb
theorem Lst.at {q : Option Addr} {n c : Nat} {xs : List Nat} {w : World} (h : Lst (.slice q n c) xs w) (hl : xs.length = n) (hn : 0 < n) : ∃ b o, q = some ⟨b, o, none⟩ ∧ ∀ j, j < n → w.cell? ⟨b, o + j, none⟩ = some (.float .f32 (xs.getD j 0)) := by
  obtain ⟨p', c', e', _, _, hv⟩ := FS_view h
  simp only [Value.slice.injEq] at e'
  obtain ⟨rfl, _, rfl⟩ := e'
  obtain ⟨b, o, hp, _⟩ := hv 0 (by omega)
  refine ⟨b, o, hp, fun j hj => ?_⟩
  obtain ⟨b2, o2, hp2, hc⟩ := hv j (by omega)
  rw [hp] at hp2
  simp only [Option.some.injEq, Addr.mk.injEq] at hp2
  obtain ⟨rfl, rfl, _⟩ := hp2
  exact hc
/-- A rod of so many cells that can be read. -/
def Rdn (R : Rd) (m : RL) (n : Nat) (w : World) : Prop := (R.a.length = n ∧ R.b.length = n ∧ R.c.length = n ∧ R.d.length = n) ∧ R.fs w m
theorem Rdn.lat (R : Rd) (m : RL) (n : Nat) : Lat (Rdn R m n) := fun _ _ h hb => ⟨h.1, h.2.later hb⟩
def rnV (m : RL) (n : Nat) : Value := .agg #[.slice m.p1 n m.c1, .slice m.p2 n m.c2, .slice m.p3 n m.c3, .slice m.p4 n m.c4]
theorem Rdn.val {R : Rd} {m : RL} {n : Nat} {w : World} (h : Rdn R m n w) : .agg #[.slice m.p1 R.a.length m.c1, .slice m.p2 R.b.length m.c2, .slice m.p3 R.c.length m.c3, .slice m.p4 R.d.length m.c4] = rnV m n := by
  obtain ⟨⟨h1, h2, h3, h4⟩, _⟩ := h
  unfold rnV
  rw [h1, h2, h3, h4]
/-- A rod of so many cells, and that it is valid. -/
def BRN (w : World) (R : Rd) (n : Nat) (e : Ending) (w' : World) : Prop := ∃ m : RL, e = .returned (.tuple #[.agg #[.slice m.p1 n m.c1, .slice m.p2 n m.c2, .slice m.p3 n m.c3, .slice m.p4 n m.c4], .bool true]) ∧ Below w.heap.size w w' ∧ Rdn R m n w'
theorem BRB.n {w w' : World} {R : Rd} {e : Ending} {n : Nat} (h : BRB w R true e w') (hl : R.a.length = n ∧ R.b.length = n ∧ R.c.length = n ∧ R.d.length = n) : BRN w R n e w' := by
  obtain ⟨m, rfl, hb, hX⟩ := h
  have q : Rdn R m n w' := ⟨hl, hX.fs⟩
  refine ⟨m, ?_, hb, q⟩
  rw [q.val]; rfl
theorem getD_map {f : Nat → Nat} {xs L : List Nat} (h : xs.map f = L) {k : Nat} (hk : k < xs.length) : f (xs.getD k 0) = L.getD k 0 := by
  subst h
  rw [List.getD_eq_getElem?_getD, List.getD_eq_getElem?_getD, List.getElem?_map, List.getElem?_eq_getElem hk]; rfl
end Go.Proofs.Ytpnkapdemgieaaa
set_option linter.unusedSimpArgs false
set_option linter.unusedVariables false
set_option linter.unusedSectionVars false
namespace Go.Proofs.Ytpnkapdemgieaaa
def tp (z : Int) : Rat := (2 : Rat) ^ z
theorem tp_pos (z : Int) : 0 < tp z := Rat.zpow_pos (by decide)
theorem tp_add (a b : Int) : tp (a + b) = tp a * tp b := Rat.zpow_add (by decide) a b
theorem tp_zero : tp 0 = 1 := Rat.zpow_zero 2
theorem tp_one : tp 1 = 2 := Rat.zpow_one 2
theorem tp_nat (n : Nat) : tp n = ((2 ^ n : Nat) : Rat) := by
  unfold tp
  rw [Rat.zpow_natCast, Rat.natCast_pow]; rfl
theorem tp_succ (a : Int) : tp (a + 1) = 2 * tp a := by rw [tp_add, tp_one, Rat.mul_comm]
theorem tp_le {a b : Int} (h : a ≤ b) : tp a ≤ tp b := by
  obtain ⟨n, rfl⟩ : ∃ n : Nat, b = a + n := ⟨(b - a).toNat, by omega⟩
  rw [tp_add, tp_nat]
  have h1 : (1 : Rat) ≤ ((2 ^ n : Nat) : Rat) := by
    have := Nat.one_le_two_pow (n := n)
    exact_mod_cast this
  have h2 := tp_pos a
  have := Rat.mul_le_mul_of_nonneg_left h1 (Rat.le_of_lt h2)
  grind
theorem tp_lt {a b : Int} (h : a < b) : tp a < tp b := by
  have h1 := tp_le (show a + 1 ≤ b by omega)
  have h2 := tp_pos a
  rw [tp_succ] at h1
  grind
theorem lt_of_tp {a b : Int} (h : tp a < tp b) : a < b := by
  by_cases h1 : a < b
  · exact h1
  · have := tp_le (show b ≤ a by omega); grind
theorem le_of_tp {a b : Int} (h : tp a ≤ tp b) : a ≤ b := by
  by_cases h1 : a ≤ b
  · exact h1
  · have := tp_lt (show b < a by omega); grind
/-- to the nearest multiple of a place that has at least f's digits -/
def RndAt (f : Ieee.Format) (last : Int) (v r : Rat) : Prop := ∃ k : Int, f.leastPlace ≤ last ∧ r = (k : Rat) * tp last ∧ 2 * (r - v) ≤ tp last ∧ 2 * (v - r) ≤ tp last ∧ (last = f.leastPlace ∨ tp (last + f.fractionBits) ≤ v ∨ tp (last + f.fractionBits) ≤ -v)
def Rnd (f : Ieee.Format) (v r : Rat) : Prop := ∃ last, RndAt f last v r
theorem mul_cancel_le {a b c : Rat} (h : 0 < c) (h1 : a * c ≤ b * c) : a ≤ b := Rat.le_of_mul_le_mul_right h1 h
theorem rnd_near {v r t : Rat} {k N : Int} (ht : 0 < t) (hr : r = k * t) (h1 : 2 * (r - v) ≤ t) (hv : v ≤ N * t) : r ≤ N * t := by
  by_cases h : k ≤ N
  · rw [hr]
    exact Rat.mul_le_mul_of_nonneg_right (by exact_mod_cast h) (Rat.le_of_lt ht)
  · exfalso
    have h2 : ((N + 1 : Int) : Rat) ≤ (k : Rat) := by exact_mod_cast (by omega : N + 1 ≤ k)
    have h3 := Rat.mul_le_mul_of_nonneg_right h2 (Rat.le_of_lt ht)
    rw [Rat.intCast_add] at h3
    grind
theorem Rnd.le {f : Ieee.Format} {v r : Rat} (h : Rnd f v r) {z q : Int} (hz : z.natAbs < 2 ^ (f.fractionBits + 1)) (hq : f.leastPlace ≤ q) (hv : v ≤ z * tp q) : r ≤ z * tp q := by
  obtain ⟨last, k, hl, hr, h1, h2, h3⟩ := h
  by_cases hlq : last ≤ q
  · obtain ⟨n, rfl⟩ : ∃ n : Nat, q = last + n := ⟨(q - last).toNat, by omega⟩
    have e : (z : Rat) * tp (last + n) = ((z * (2 ^ n : Nat) : Int) : Rat) * tp last := by
      rw [tp_add, tp_nat, Rat.intCast_mul]
      have : (((2 ^ n : Nat) : Int) : Rat) = ((2 ^ n : Nat) : Rat) := Rat.intCast_natCast _
      rw [this]
      grind
    rw [e] at hv ⊢
    exact rnd_near (tp_pos last) hr h1 hv
  · have hb : tp (q + f.fractionBits + 1) ≤ tp (last + f.fractionBits) := tp_le (by omega)
    have e : tp (q + f.fractionBits + 1) = ((2 ^ (f.fractionBits + 1) : Nat) : Rat) * tp q := by
      rw [show q + (f.fractionBits : Int) + 1 = ((f.fractionBits + 1 : Nat) : Int) + q by omega, tp_add, tp_nat]
    have hq0 := tp_pos q
    have hz1 : (z : Rat) < ((2 ^ (f.fractionBits + 1) : Nat) : Rat) := by
      have : z < ((2 ^ (f.fractionBits + 1) : Nat) : Int) := by omega
      have := Rat.intCast_lt_intCast.2 this
      rwa [Rat.intCast_natCast] at this
    have hz2 : -((2 ^ (f.fractionBits + 1) : Nat) : Rat) < (z : Rat) := by
      have : -((2 ^ (f.fractionBits + 1) : Nat) : Int) < z := by omega
      have := Rat.intCast_lt_intCast.2 this
      rwa [Rat.intCast_neg, Rat.intCast_natCast] at this
    have hz3 := Rat.mul_lt_mul_of_pos_right hz1 hq0
    have hz4 := Rat.mul_lt_mul_of_pos_right hz2 hq0
    rcases h3 with h3 | h3 | h3
    · omega
    · exfalso; grind
    · have e2 : tp (last + f.fractionBits) = ((2 ^ f.fractionBits : Nat) : Rat) * tp last := by
        rw [Int.add_comm, tp_add, tp_nat]
      have := rnd_near (N := -((2 ^ f.fractionBits : Nat) : Int)) (tp_pos last) hr h1 (by rw [Rat.intCast_neg, Rat.intCast_natCast]; grind)
      rw [Rat.intCast_neg, Rat.intCast_natCast] at this
      grind
theorem RndAt.neg {f : Ieee.Format} {last : Int} {v r : Rat} (h : RndAt f last v r) : RndAt f last (-v) (-r) := by
  obtain ⟨k, hl, hr, h1, h2, h3⟩ := h
  refine ⟨-k, hl, by rw [hr, Rat.intCast_neg]; grind, by grind, by grind, by grind⟩
theorem Rnd.neg {f : Ieee.Format} {v r : Rat} (h : Rnd f v r) : Rnd f (-v) (-r) := by
  obtain ⟨last, h⟩ := h
  exact ⟨last, h.neg⟩
theorem Rnd.ge {f : Ieee.Format} {v r : Rat} (h : Rnd f v r) {z q : Int} (hz : z.natAbs < 2 ^ (f.fractionBits + 1)) (hq : f.leastPlace ≤ q) (hv : z * tp q ≤ v) : z * tp q ≤ r := by
  have := h.neg.le (z := -z) (by omega) hq (by rw [Rat.intCast_neg]; grind)
  rw [Rat.intCast_neg] at this
  grind
theorem Rnd.eq {f : Ieee.Format} {v r : Rat} (h : Rnd f v r) {z q : Int} (hz : z.natAbs < 2 ^ (f.fractionBits + 1)) (hq : f.leastPlace ≤ q) (hv : v = z * tp q) : r = v := by
  have h1 := h.le hz hq (by grind)
  have h2 := h.ge hz hq (by grind)
  grind
def sg (s : Bool) : Rat := if s then -1 else 1
/-- The value of a datum. -/
def dv : Ieee.Datum → Rat
  | .number s m p => sg s * ((m : Rat) * tp p)
  | _ => 0
theorem rnd_cut (s : Bool) (m d : Nat) : 2 * (Ieee.Toward.even.cut s m d * 2 ^ d) ≤ 2 * m + 2 ^ d ∧ 2 * m ≤ 2 * (Ieee.Toward.even.cut s m d * 2 ^ d) + 2 ^ d := by
  unfold Ieee.Toward.cut
  simp only [Nat.one_shiftLeft]
  by_cases hd : d ≤ m.log2 + 2
  · rw [Nat.min_eq_left hd]
    have hp := Nat.two_pow_pos d
    have hm1 := Nat.div_add_mod m (2 ^ d)
    have hm2 := Nat.mod_lt m hp
    generalize m % 2 ^ d = rest at *
    generalize m / 2 ^ d = low at *
    generalize 2 ^ d = g at *
    rw [Nat.mul_comm] at hm1
    by_cases h1 : g < 2 * rest
    · have e : (decide (g < 2 * rest) || g == 2 * rest && low % 2 == 1) = true := by simp [h1]
      rw [e, Bool.toNat_true, Nat.add_mul]
      omega
    · by_cases h2 : g = 2 * rest ∧ low % 2 = 1
      · have e : (decide (g < 2 * rest) || g == 2 * rest && low % 2 == 1) = true := by simp [h2.1, h2.2]
        rw [e, Bool.toNat_true, Nat.add_mul]
        omega
      · have e : (decide (g < 2 * rest) || g == 2 * rest && low % 2 == 1) = false := by
          simp only [h1, decide_false, Bool.false_or, Bool.and_eq_false_iff, beq_eq_false_iff_ne]
          omega
        rw [e, Bool.toNat_false, Nat.add_zero]
        omega
  · rw [Nat.min_eq_right (by omega)]
    have h2 : m < 2 ^ (m.log2 + 1) := Nat.lt_log2_self
    have h3 : 2 ^ (m.log2 + 2) = 2 * 2 ^ (m.log2 + 1) := by rw [show m.log2 + 2 = (m.log2 + 1) + 1 by omega, Nat.pow_succ]; omega
    have h4 : 2 ^ (m.log2 + 2) ≤ 2 ^ d := Nat.pow_le_pow_right (by omega) (by omega)
    rw [Nat.div_eq_of_lt (by omega), Nat.mod_eq_of_lt (by omega)]
    have e : (decide (2 ^ (m.log2 + 2) < 2 * m) || 2 ^ (m.log2 + 2) == 2 * m && 0 % 2 == 1) = false := by
      simp; omega
    rw [e]
    simp; omega
theorem infRung_lt' (f : Ieee.Format) : f.infRung + f.binade = f.signWeight := by
  unfold Ieee.Format.infRung Ieee.Format.binade Ieee.Format.signWeight
  rw [Nat.pow_add, Nat.sub_mul, Nat.one_mul]
  have : 1 * 2 ^ f.fractionBits ≤ 2 ^ f.exponentBits * 2 ^ f.fractionBits := Nat.mul_le_mul_right _ (Nat.two_pow_pos _)
  omega
theorem binade_pos' (f : Ieee.Format) : 0 < f.binade := Nat.two_pow_pos _
theorem read_wordR (f : Ieee.Format) (s : Bool) {r : Nat} (h : r < f.signWeight) : f.read (f.word s r) = (if r < f.binade then .number s r f.leastPlace else if r < f.infRung then .number s (f.binade + r % f.binade) (f.leastPlace + (r / f.binade - 1 : Nat)) else if r = f.infRung then .infinity s else .nan s (r - f.infRung)) := by
  have hp : 0 < f.signWeight := by have := infRung_lt' f; have := binade_pos' f; omega
  have e1 : f.word s r % f.signWeight = r := by
    unfold Ieee.Format.word
    split
    · rw [Nat.add_mod_left, Nat.mod_eq_of_lt h]
    · exact Nat.mod_eq_of_lt h
  have e2 : (f.word s r / f.signWeight % 2 == 1) = s := by
    unfold Ieee.Format.word
    cases s
    · simp [Nat.div_eq_of_lt h]
    · simp [Nat.add_div_left _ hp, Nat.div_eq_of_lt h]
  unfold Ieee.Format.read
  simp only [e1, e2]
theorem dv_rung (f : Ieee.Format) (s : Bool) (e k : Nat) (h1 : e = 0 ∨ f.binade ≤ k) (h2 : k ≤ 2 * f.binade) (h3 : e * f.binade + k < f.infRung) :
    isNum (f.read (f.word s (e * f.binade + k))) = true ∧ dv (f.read (f.word s (e * f.binade + k))) = sg s * ((k : Rat) * tp (f.leastPlace + e)) := by
  have hb := binade_pos' f
  have hlt : e * f.binade + k < f.signWeight := by have := infRung_lt' f; omega
  rw [read_wordR f s hlt]
  by_cases h4 : e * f.binade + k < f.binade
  · rw [if_pos h4]
    have he : e = 0 := by
      rcases h1 with h1 | h1
      · exact h1
      · omega
    subst he
    simp [isNum, dv]
  · rw [if_neg h4, if_pos h3]
    refine ⟨rfl, ?_⟩
    by_cases h5 : k < f.binade
    · rcases h1 with h1 | h1
      · subst h1; omega
      · omega
    by_cases h6 : k < 2 * f.binade
    · have e1 : (e * f.binade + k) % f.binade = k - f.binade := by
        rw [show e * f.binade + k = (k - f.binade) + f.binade * (e + 1) by rw [Nat.mul_add, Nat.mul_comm]; omega, Nat.add_mul_mod_self_left]
        exact Nat.mod_eq_of_lt (by omega)
      have e2 : (e * f.binade + k) / f.binade = e + 1 := by
        rw [show e * f.binade + k = (k - f.binade) + f.binade * (e + 1) by rw [Nat.mul_add, Nat.mul_comm]; omega, Nat.add_mul_div_left _ _ hb, Nat.div_eq_of_lt (by omega)]
        omega
      rw [e1, e2]
      unfold dv
      rw [show f.binade + (k - f.binade) = k by omega, show e + 1 - 1 = e by omega]
    · have hk : k = 2 * f.binade := by omega
      subst hk
      have e0 : e * f.binade + 2 * f.binade = f.binade * (e + 2) := by rw [Nat.mul_add, Nat.mul_comm, Nat.mul_comm 2]
      rw [e0, Nat.mul_mod_right, Nat.mul_div_cancel_left _ hb]
      have e3 : tp (f.leastPlace + ((e + 2 - 1 : Nat) : Int)) = 2 * tp (f.leastPlace + e) := by
        rw [← tp_succ]; congr 1; omega
      simp only [dv]
      rw [e3, Nat.add_zero, Rat.natCast_mul]
      have : ((2 : Nat) : Rat) = 2 := rfl
      rw [this]
      grind
theorem abs_sg (s : Bool) (x : Rat) : (sg s * x = x ∧ s = false) ∨ (sg s * x = -x ∧ s = true) := by
  cases s
  · left; simp [sg]
  · right; refine ⟨?_, rfl⟩; simp only [sg]; grind
/-- one above the greatest place of a finite number's first digit -/
def top (f : Ieee.Format) : Int := f.leastPlace + (2 ^ f.exponentBits : Nat) - 2 + f.fractionBits
theorem nearest_at (f : Ieee.Format) (s : Bool) (m : Nat) (p : Int) (h2 : 4 ≤ 2 ^ f.exponentBits) (Q : Int) (hQ : Q < top f) (hv : (m : Rat) * tp p ≤ tp Q) :
    isNum (f.read (f.nearest s m p)) = true ∧ ∃ last, (m ≠ 0 → p + m.log2 - f.fractionBits ≤ last) ∧ RndAt f last (sg s * ((m : Rat) * tp p)) (dv (f.read (f.nearest s m p))) := by
  have hb := binade_pos' f
  by_cases hm : m = 0
  · subst hm
    unfold Ieee.Format.nearest
    rw [if_pos rfl]
    have hinf : 0 < f.infRung := by
      unfold Ieee.Format.infRung
      exact Nat.mul_pos (by omega) hb
    have := dv_rung f s 0 0 (.inl rfl) (by omega) (by omega)
    simp only [Nat.zero_mul, Nat.add_zero] at this
    refine ⟨this.1, ?_⟩
    rw [this.2]
    refine ⟨f.leastPlace, fun h => absurd rfl h, 0, Int.le_refl _, ?_, ?_, ?_, .inl rfl⟩
    · simp
    · have := tp_pos f.leastPlace; simp; grind
    · have := tp_pos f.leastPlace; simp; grind
  unfold Ieee.Format.nearest
  rw [if_neg hm]
  simp only
  obtain ⟨last, hlast⟩ : ∃ last, last = max (p + m.log2 - f.fractionBits) f.leastPlace := ⟨_, rfl⟩
  rw [← hlast]
  obtain ⟨kept, hkept⟩ : ∃ kept, kept = Ieee.Toward.even.cut s (m <<< (p - last).toNat) (last - p).toNat := ⟨_, rfl⟩
  rw [← hkept]
  have hge : f.leastPlace ≤ last := by omega
  obtain ⟨e, he⟩ : ∃ e : Nat, last = f.leastPlace + e := ⟨(last - f.leastPlace).toNat, by omega⟩
  have he' : (last - f.leastPlace).toNat = e := by omega
  rw [he']
  -- near
  have hnear : 2 * ((kept : Rat) * tp last) ≤ 2 * ((m : Rat) * tp p) + tp last ∧ 2 * ((m : Rat) * tp p) ≤ 2 * ((kept : Rat) * tp last) + tp last := by
    by_cases hlp : last ≤ p
    · have e1 : (last - p).toNat = 0 := by omega
      have e2 : kept = m * 2 ^ (p - last).toNat := by
        rw [hkept, e1, Nat.shiftLeft_eq]
        simp [Ieee.Toward.cut, Nat.mod_one]
      obtain ⟨n, hn⟩ : ∃ n : Nat, p = last + n := ⟨(p - last).toNat, by omega⟩
      have e3 : (p - last).toNat = n := by omega
      rw [e3] at e2
      rw [e2, hn, tp_add, tp_nat, Rat.natCast_mul]
      have := tp_pos last
      constructor <;> grind
    · obtain ⟨n, hn⟩ : ∃ n : Nat, last = p + n := ⟨(last - p).toNat, by omega⟩
      have e1 : (p - last).toNat = 0 := by omega
      have e3 : (last - p).toNat = n := by omega
      rw [e1, e3, Nat.shiftLeft_zero] at hkept
      have hc := rnd_cut s m n
      rw [← hkept] at hc
      rw [hn, tp_add, tp_nat]
      have c1 : ((2 * (kept * 2 ^ n) : Nat) : Rat) ≤ ((2 * m + 2 ^ n : Nat) : Rat) := by exact_mod_cast hc.1
      have c2 : ((2 * m : Nat) : Rat) ≤ ((2 * (kept * 2 ^ n) + 2 ^ n : Nat) : Rat) := by exact_mod_cast hc.2
      rw [Rat.natCast_add, Rat.natCast_mul, Rat.natCast_mul, Rat.natCast_mul] at c1 c2
      have hp0 := tp_pos p
      have e2 : ((2 : Nat) : Rat) = 2 := rfl
      rw [e2] at c1 c2
      have d1 := Rat.mul_le_mul_of_nonneg_right c1 (Rat.le_of_lt hp0)
      have d2 := Rat.mul_le_mul_of_nonneg_right c2 (Rat.le_of_lt hp0)
      constructor <;> grind
  have hlow : ((2 ^ m.log2 : Nat) : Rat) ≤ m := by exact_mod_cast Nat.log2_self_le hm
  have hup : (m : Rat) < ((2 ^ (m.log2 + 1) : Nat) : Rat) := by exact_mod_cast Nat.lt_log2_self (n := m)
  have hp0 := tp_pos p
  have hlow' : tp (p + m.log2) ≤ (m : Rat) * tp p := by
    rw [Int.add_comm, tp_add, tp_nat]; exact Rat.mul_le_mul_of_nonneg_right hlow (Rat.le_of_lt hp0)
  have hup' : (m : Rat) * tp p < tp (p + m.log2 + 1) := by
    rw [show p + (m.log2 : Int) + 1 = ((m.log2 + 1 : Nat) : Int) + p by omega, tp_add, tp_nat]; exact Rat.mul_lt_mul_of_pos_right hup hp0
  have hsub : last = f.leastPlace ∨ tp (last + f.fractionBits) ≤ (m : Rat) * tp p := by
    by_cases h : last = f.leastPlace
    · exact .inl h
    · right
      have : last + f.fractionBits = p + m.log2 := by omega
      rw [this]; exact hlow'
  have htop : (m : Rat) * tp p < tp (last + f.fractionBits + 1) := by
    have := tp_le (show p + (m.log2 : Int) + 1 ≤ last + f.fractionBits + 1 by omega)
    grind
  have hl0 := tp_pos last
  have eB : tp (last + f.fractionBits) = (f.binade : Rat) * tp last := by
    rw [Int.add_comm, tp_add, tp_nat]; rfl
  -- kept between
  have hk2 : kept ≤ 2 * f.binade := by
    have h1 := rnd_near (N := ((2 * f.binade : Nat) : Int)) (k := (kept : Int)) (v := (m : Rat) * tp p) (r := (kept : Rat) * tp last) hl0 (by rw [Rat.intCast_natCast]) (by grind) (by
      rw [Rat.intCast_natCast, Rat.natCast_mul]
      rw [tp_succ, eB] at htop
      have e2 : ((2 : Nat) : Rat) = 2 := rfl
      rw [e2]; grind)
    rw [Rat.intCast_natCast] at h1
    have h2 := mul_cancel_le hl0 h1
    exact_mod_cast h2
  have hk1 : e = 0 ∨ f.binade ≤ kept := by
    rcases hsub with h | h
    · left; omega
    · right
      have h1 := rnd_near (N := -(f.binade : Int)) (k := -(kept : Int)) (v := -((m : Rat) * tp p)) (r := -((kept : Rat) * tp last)) hl0 (by rw [Rat.intCast_neg, Rat.intCast_natCast]; grind) (by grind) (by
        rw [Rat.intCast_neg, Rat.intCast_natCast]; grind)
      rw [Rat.intCast_neg, Rat.intCast_natCast] at h1
      have h2 := mul_cancel_le (a := (f.binade : Rat)) (b := (kept : Rat)) hl0 (by grind)
      exact_mod_cast h2
  have hrnd : RndAt f last (sg s * ((m : Rat) * tp p)) (sg s * ((kept : Rat) * tp last)) := by
    rcases abs_sg s ((m : Rat) * tp p) with ⟨e1, e2⟩ | ⟨e1, e2⟩ <;> rcases abs_sg s ((kept : Rat) * tp last) with ⟨e3, e4⟩ | ⟨e3, e4⟩
    · rw [e1, e3]
      exact ⟨kept, hge, by rw [Rat.intCast_natCast], by grind, by grind, by rcases hsub with h | h; exact .inl h; exact .inr (.inl h)⟩
    · rw [e2] at e4; cases e4
    · rw [e2] at e4; cases e4
    · rw [e1, e3]
      exact ⟨-kept, hge, by rw [Rat.intCast_neg, Rat.intCast_natCast]; grind, by grind, by grind, by rcases hsub with h | h; exact .inl h; exact .inr (.inr (by grind))⟩
  -- no overflow
  have hfin : e * f.binade + kept < f.infRung := by
    have eI : f.infRung = (2 ^ f.exponentBits - 1) * f.binade := rfl
    rw [eI]
    obtain ⟨E, hE⟩ : ∃ E, 2 ^ f.exponentBits = E + 2 := ⟨2 ^ f.exponentBits - 2, by omega⟩
    have ht : top f = f.leastPlace + E + f.fractionBits := by unfold top; rw [hE]; omega
    rw [ht] at hQ
    rw [hE, show E + 2 - 1 = E + 1 by omega, Nat.add_mul, Nat.one_mul]
    have hlastQ : last = f.leastPlace ∨ last + f.fractionBits ≤ Q := by
      rcases hsub with h | h
      · exact .inl h
      · right; exact le_of_tp (by grind)
    rcases hlastQ with h | h
    · have he0 : e = 0 := by omega
      subst he0
      rw [Nat.zero_mul]
      have := Nat.mul_le_mul_right f.binade (show 2 ≤ E by omega)
      omega
    · have he1 : (e : Int) ≤ E - 1 := by omega
      have hEe : e + 1 ≤ E := by omega
      have := Nat.mul_le_mul_right f.binade hEe
      rw [Nat.add_mul, Nat.one_mul] at this
      by_cases hk : kept = 2 * f.binade
      · have h1 : (kept : Rat) * tp last ≤ tp Q := by
          have hh := (show Rnd f ((m : Rat) * tp p) ((kept : Rat) * tp last) from ⟨last, kept, hge, by rw [Rat.intCast_natCast], by grind, by grind, by rcases hsub with h | h; exact .inl h; exact .inr (.inl h)⟩)
          have := hh.le (z := 1) (q := Q) (by have := Nat.one_lt_two_pow (n := f.fractionBits + 1) (by omega); simp) (by omega) (by simpa using hv)
          simpa using this
        rw [hk, Rat.natCast_mul] at h1
        have e2 : ((2 : Nat) : Rat) = 2 := rfl
        have h6 : tp (last + f.fractionBits + 1) ≤ tp Q := by rw [tp_succ, eB]; rw [e2] at h1; grind
        have h7 := le_of_tp h6
        have hEe : e + 2 ≤ E := by omega
        have := Nat.mul_le_mul_right f.binade hEe
        rw [Nat.add_mul] at this
        omega
      · omega
  rw [Nat.min_eq_left (by omega)]
  have := dv_rung f s e kept hk1 hk2 hfin
  refine ⟨this.1, ?_⟩
  rw [this.2, ← he]
  exact ⟨last, fun _ => by omega, hrnd⟩
theorem nearest_rnd (f : Ieee.Format) (s : Bool) (m : Nat) (p : Int) (h2 : 4 ≤ 2 ^ f.exponentBits) (Q : Int) (hQ : Q < top f) (hv : (m : Rat) * tp p ≤ tp Q) :
    isNum (f.read (f.nearest s m p)) = true ∧ Rnd f (sg s * ((m : Rat) * tp p)) (dv (f.read (f.nearest s m p))) := by
  obtain ⟨h1, last, _, h⟩ := nearest_at f s m p h2 Q hQ hv
  exact ⟨h1, last, h⟩
/-! words -/
theorem Rnd.zero {f : Ieee.Format} {r : Rat} (h : Rnd f 0 r) : r = 0 := by
  have := h.eq (z := 0) (q := f.leastPlace) (by simp; exact Nat.two_pow_pos _) (Int.le_refl _) (by simp)
  exact this
theorem abs_le_of_sg {s : Bool} {x b : Rat} (h1 : sg s * x ≤ b) (h2 : -(sg s * x) ≤ b) : x ≤ b := by
  rcases abs_sg s x with ⟨e, _⟩ | ⟨e, _⟩ <;> rw [e] at h1 h2 <;> grind
/-- what a datum's word stands for, rounded -/
theorem write_rnd (f : Ieee.Format) (d : Ieee.Datum) (hd : isNum d = true) (h2 : 4 ≤ 2 ^ f.exponentBits) (Q : Int) (hQ : Q < top f) (h3 : dv d ≤ tp Q) (h4 : -dv d ≤ tp Q) : isNum (f.read (f.write d)) = true ∧ Rnd f (dv d) (dv (f.read (f.write d))) := by
  cases d with
  | number s m p =>
    refine nearest_rnd f s m p h2 Q hQ ?_
    exact abs_le_of_sg h3 h4
  | infinity => cases hd
  | nan => cases hd
theorem signed_val (s : Bool) (m n : Nat) : ((Ieee.signed s m n : Int) : Rat) = sg s * ((m : Rat) * tp n) := by
  unfold Ieee.signed
  rw [tp_nat]
  cases s
  · rw [if_neg (by decide), Rat.intCast_natCast, Nat.shiftLeft_eq, Rat.natCast_mul]; simp only [sg]; grind
  · rw [if_pos rfl, Rat.intCast_neg, Rat.intCast_natCast, Nat.shiftLeft_eq, Rat.natCast_mul]; simp only [sg]; grind
theorem sum_val {x y d : Ieee.Datum} (hx : isNum x = true) (hy : isNum y = true) (h : x.sum y = some d) : isNum d = true ∧ dv d = dv x + dv y := by
  cases x with
  | number s m i =>
    cases y with
    | number t n j =>
      simp only [Ieee.Datum.sum, Option.some.injEq] at h
      subst h
      refine ⟨rfl, ?_⟩
      obtain ⟨a, ha⟩ : ∃ a : Nat, i = min i j + a := ⟨(i - min i j).toNat, by omega⟩
      obtain ⟨b, hb⟩ : ∃ b : Nat, j = min i j + b := ⟨(j - min i j).toNat, by omega⟩
      have ea : (i - min i j).toNat = a := by omega
      have eb : (j - min i j).toNat = b := by omega
      rw [ea, eb]
      have hs := signed_val s m a
      have ht := signed_val t n b
      generalize Ieee.signed s m a = A at hs ⊢
      generalize Ieee.signed t n b = B at ht ⊢
      generalize min i j = base at *
      have e1 : dv (.number s m i) = ((A : Int) : Rat) * tp base := by
        rw [hs, ha]; simp only [dv]; rw [tp_add]; grind
      have e2 : dv (.number t n j) = ((B : Int) : Rat) * tp base := by
        rw [ht, hb]; simp only [dv]; rw [tp_add]; grind
      rw [e1, e2]
      simp only [dv]
      have e3 : sg (if A + B = 0 then s && t else decide (A + B < 0)) * (((A + B).natAbs : Nat) : Rat) = ((A + B : Int) : Rat) := by
        by_cases h0 : A + B = 0
        · rw [h0]; simp
        · rw [if_neg h0]
          by_cases h1 : A + B < 0
          · simp only [h1, decide_true, sg, if_true]
            have : ((A + B : Int) : Rat) = -((-(A + B) : Int) : Rat) := by rw [Rat.intCast_neg]; grind
            rw [this]
            have h5 : ((A + B).natAbs : Int) = -(A + B) := by omega
            rw [← h5, Rat.intCast_natCast]; grind
          · simp only [h1, decide_false, sg]
            have h5 : ((A + B).natAbs : Int) = (A + B) := by omega
            rw [← h5, Rat.intCast_natCast]; simp
      rw [← Rat.mul_assoc, e3, Rat.intCast_add]
      grind
    | infinity => cases hy
    | nan => cases hy
  | infinity => cases hx
  | nan => cases hx
theorem sg_xor (s t : Bool) : sg (s ^^ t) = sg s * sg t := by cases s <;> cases t <;> simp [sg] <;> grind
theorem product_val {x y d : Ieee.Datum} (hx : isNum x = true) (hy : isNum y = true) (h : x.product y = some d) : isNum d = true ∧ dv d = dv x * dv y := by
  cases x with
  | number s m i =>
    cases y with
    | number t n j =>
      simp only [Ieee.Datum.product, Option.some.injEq] at h
      subst h
      refine ⟨rfl, ?_⟩
      simp only [dv]
      rw [sg_xor, tp_add, Rat.natCast_mul]
      grind
    | infinity => cases hy
    | nan => cases hy
  | infinity => cases hx
  | nan => cases hx
theorem opposite_val {x : Ieee.Datum} (hx : isNum x = true) : isNum x.opposite = true ∧ dv x.opposite = -dv x := by
  cases x with
  | number s m i => refine ⟨rfl, ?_⟩; cases s <;> simp [Ieee.Datum.opposite, dv, sg] <;> grind
  | infinity => cases hx
  | nan => cases hx
/-- A number just above or just below: it is rounded as the one that tells so by its last digit. -/
theorem sticky (f : Ieee.Format) {last place : Int} {q : Nat} {st : Bool} {v r : Rat} (h : RndAt f last (((2 * q + st.toNat : Nat) : Rat) * tp place) r) (hl : place + 2 ≤ last)
    (hv : if st then ((2 * q : Nat) : Rat) * tp place < v ∧ v < ((2 * q + 2 : Nat) : Rat) * tp place else v = ((2 * q : Nat) : Rat) * tp place) : RndAt f last v r := by
  cases st with
  | false =>
    simp only [Bool.toNat_false, Nat.add_zero] at h
    simp only [Bool.false_eq_true, if_false] at hv
    rw [hv]; exact h
  | true =>
    simp only [Bool.toNat_true] at h
    simp only [if_true] at hv
    obtain ⟨k, h0, hr, h1, h2, h3⟩ := h
    obtain ⟨n, hn⟩ : ∃ n : Nat, last = place + 2 + n := ⟨(last - place - 2).toNat, by omega⟩
    have et : tp last = ((4 * 2 ^ n : Nat) : Rat) * tp place := by
      rw [hn, Int.add_assoc, Int.add_comm, tp_add, show (2 : Int) + (n : Int) = ((n + 2 : Nat) : Int) by omega, tp_nat, Nat.pow_add]
      congr 2; omega
    have hp := tp_pos place
    obtain ⟨g, hg⟩ : ∃ g : Nat, g = 2 ^ n := ⟨_, rfl⟩
    rw [← hg] at et
    -- in units of the place
    have et1 : tp last = 4 * (g : Rat) * tp place := by rw [et]; push_cast; grind
    have a1 : ((8 * (k * g) - 2 * (2 * q + 1) : Int) : Rat) ≤ ((4 * g : Int) : Rat) := by
      refine mul_cancel_le hp ?_
      rw [hr, et1] at h1
      push_cast at h1 ⊢
      grind
    have a2 : ((2 * (2 * q + 1) - 8 * (k * g) : Int) : Rat) ≤ ((4 * g : Int) : Rat) := by
      refine mul_cancel_le hp ?_
      rw [hr, et1] at h2
      push_cast at h2 ⊢
      grind
    obtain ⟨K, hK⟩ : ∃ K : Int, K = k * g := ⟨_, rfl⟩
    rw [← hK] at a1 a2
    have a1' : 8 * K - 2 * (2 * q + 1) ≤ 4 * (g : Int) := by exact_mod_cast a1
    have a2' : 2 * (2 * q + 1) - 8 * K ≤ 4 * (g : Int) := by exact_mod_cast a2
    -- 2q+1 is odd
    have b1 : 4 * K - 2 * g ≤ 2 * (q : Int) := by omega
    have b2 : (2 * q + 2 : Int) ≤ 4 * K + 2 * g := by omega
    have c1 : ((4 * K - 2 * g : Int) : Rat) ≤ ((2 * q : Int) : Rat) := by exact_mod_cast b1
    have c2 : ((2 * q + 2 : Int) : Rat) ≤ ((4 * K + 2 * g : Int) : Rat) := by exact_mod_cast b2
    have d1 := Rat.mul_le_mul_of_nonneg_right c1 (Rat.le_of_lt hp)
    have d2 := Rat.mul_le_mul_of_nonneg_right c2 (Rat.le_of_lt hp)
    have er : r = 4 * ((K : Int) : Rat) * tp place := by
      rw [hr, et1, hK]; push_cast; grind
    push_cast at d1 d2 hv
    have f1 : 2 * (r - v) ≤ tp last := by
      rw [er, et1]
      grind
    have f2 : 2 * (v - r) ≤ tp last := by
      rw [er, et1]
      grind
    refine ⟨k, h0, hr, f1, f2, ?_⟩
    rcases h3 with h3 | h3 | h3
    · exact .inl h3
    · right; left
      have e5 : tp (last + f.fractionBits) = ((2 * (2 * g * 2 ^ f.fractionBits) : Nat) : Rat) * tp place := by
        rw [Int.add_comm, tp_add, tp_nat, et1]; push_cast; grind
      rw [e5] at h3 ⊢
      generalize 2 * g * 2 ^ f.fractionBits = X at h3 ⊢
      have h4 := mul_cancel_le hp h3
      have h5 : 2 * X ≤ 2 * q + 1 := by exact_mod_cast h4
      have h6 : ((2 * X : Nat) : Rat) ≤ ((2 * q : Nat) : Rat) := by exact_mod_cast (show 2 * X ≤ 2 * q by omega)
      have := Rat.mul_le_mul_of_nonneg_right h6 (Rat.le_of_lt hp)
      push_cast at this ⊢
      grind
    · exfalso
      have h4 := tp_pos (last + f.fractionBits)
      have h5 : (0 : Rat) ≤ ((2 * q + 1 : Nat) : Rat) := by exact_mod_cast Nat.zero_le _
      have h6 := Rat.mul_nonneg h5 (Rat.le_of_lt hp)
      grind
theorem sg_ne (s : Bool) : sg s * sg s = 1 := by cases s <;> simp [sg] <;> grind
theorem dv_zero {s : Bool} {n : Nat} {j : Int} (h : dv (.number s n j) ≠ 0) : n ≠ 0 := by
  rintro rfl
  apply h
  simp [dv]
theorem div_rnd (f : Ieee.Format) {x y d : Ieee.Datum} (hx : isNum x = true) (hy : isNum y = true) (h0 : dv y ≠ 0) (h2 : 4 ≤ 2 ^ f.exponentBits) (h : x.quotient (f.fractionBits + 2) y = some d) (Q : Int) (hQ : Q < top f)
    (h3 : dv x / dv y ≤ tp Q) (h4 : -(dv x / dv y) ≤ tp Q) : isNum (f.read (f.write d)) = true ∧ Rnd f (dv x / dv y) (dv (f.read (f.write d))) := by
  cases x with
  | number s m i =>
    cases y with
    | number t n j =>
      have hn : n ≠ 0 := dv_zero h0
      simp only [Ieee.Datum.quotient, if_neg hn, Option.some.injEq] at h
      obtain ⟨more, hmore⟩ : ∃ more, more = f.fractionBits + 2 + n.log2 - m.log2 := ⟨_, rfl⟩
      rw [← hmore, Nat.shiftLeft_eq] at h
      obtain ⟨D, hD⟩ : ∃ D, D = m * 2 ^ more := ⟨_, rfl⟩
      rw [← hD] at h
      obtain ⟨q, hq⟩ : ∃ q, q = D / n := ⟨_, rfl⟩
      obtain ⟨r, hr⟩ : ∃ r, r = D % n := ⟨_, rfl⟩
      rw [← hq, ← hr] at h
      have hdm := Nat.div_add_mod D n
      rw [← hq, ← hr] at hdm
      have hrn : r < n := by rw [hr]; exact Nat.mod_lt _ (by omega)
      obtain ⟨place, hpl⟩ : ∃ place, place = i - j - more - 1 := ⟨_, rfl⟩
      rw [← hpl] at h
      have hu := tp_pos place
      have hj := tp_pos j
      have hn0 : (0 : Rat) < n := by exact_mod_cast (show 0 < n by omega)
      -- the value
      obtain ⟨V, hV⟩ : ∃ V : Rat, V = (m : Rat) * tp (i - j) / n := ⟨_, rfl⟩
      have hVm : V * n = (m : Rat) * tp (i - j) := by rw [hV]; grind
      have hVn : V * n = 2 * (D : Rat) * tp place := by
        rw [hVm, show i - j = ((more : Nat) : Int) + 1 + place by omega, tp_add, tp_succ, tp_nat, hD]
        push_cast
        grind
      have e2 : tp i = tp (i - j) * tp j := by rw [← tp_add]; congr 1; omega
      have hst := sg_ne t
      have hval : dv (.number s m i) / dv (.number t n j) = sg (s ^^ t) * V := by
        rw [sg_xor, hV]
        simp only [dv]
        rw [e2]
        have h5 : sg t ≠ 0 := by intro h; rw [h] at hst; grind
        grind
      have hV0 : 0 ≤ V := by
        rw [hV]
        have := Rat.mul_nonneg (show (0 : Rat) ≤ m by exact_mod_cast Nat.zero_le m) (Rat.le_of_lt (tp_pos (i - j)))
        refine Rat.le_of_mul_le_mul_right (c := (n : Rat)) ?_ hn0
        rw [Rat.zero_mul, ← hV, hVm]
        exact this
      rw [hval] at h3 h4 ⊢
      have hVQ := abs_le_of_sg h3 h4
      have hDq : (D : Rat) = (n : Rat) * q + r := by exact_mod_cast hdm.symm
      -- the sticky digit
      have hcase : if (r != 0) = true then ((2 * q : Nat) : Rat) * tp place < V ∧ V < ((2 * q + 2 : Nat) : Rat) * tp place else V = ((2 * q : Nat) : Rat) * tp place := by
        by_cases hr0 : r = 0
        · subst hr0
          rw [if_neg (by simp)]
          rw [hDq] at hVn
          push_cast at hVn ⊢
          have : (V - 2 * q * tp place) * n = 0 := by grind
          have := Rat.mul_eq_zero.1 this
          grind
        · rw [if_pos (by simpa using hr0)]
          have hr1 : (0 : Rat) < r := by exact_mod_cast (show 0 < r by omega)
          have hr2 : (r : Rat) < n := by exact_mod_cast hrn
          have k1 := Rat.mul_lt_mul_of_pos_right hr1 hu
          have k2 := Rat.mul_lt_mul_of_pos_right hr2 hu
          rw [hDq] at hVn
          push_cast
          constructor
          · exact Rat.lt_of_mul_lt_mul_right (c := (n : Rat)) (by grind) (Rat.le_of_lt hn0)
          · exact Rat.lt_of_mul_lt_mul_right (c := (n : Rat)) (by grind) (Rat.le_of_lt hn0)
      have hst0 : (r != 0).toNat ≤ 1 := by cases (r != 0) <;> simp
      by_cases hm : m = 0
      · have hD0 : D = 0 := by rw [hD, hm, Nat.zero_mul]
        have hq0 : q = 0 := by rw [hq, hD0, Nat.zero_div]
        have hr0 : r = 0 := by rw [hr, hD0, Nat.zero_mod]
        subst hq0
        subst hr0
        simp at h
        subst h
        have := write_rnd f (.number (s ^^ t) 0 place) rfl h2 Q hQ (by simp [dv]; exact Rat.le_of_lt (tp_pos Q)) (by simp [dv]; exact Rat.le_of_lt (tp_pos Q))
        refine ⟨this.1, ?_⟩
        have hz : V = 0 := by simpa using hcase
        rw [hz]
        have h6 := this.2
        simpa [dv] using h6
      -- enough digits
      have hqb : 2 ^ (f.fractionBits + 1) ≤ q := by
        by_cases hlt : 2 ^ (f.fractionBits + 1) ≤ q
        · exact hlt
        · exfalso
          have a1 : q + 1 ≤ 2 ^ (f.fractionBits + 1) := by omega
          have a2 : (q + 1) * n ≤ 2 ^ (f.fractionBits + 1) * n := Nat.mul_le_mul_right _ a1
          have a3 : n < 2 ^ (n.log2 + 1) := Nat.lt_log2_self
          have a4 : 2 ^ (f.fractionBits + 1) * n < 2 ^ (f.fractionBits + 1) * 2 ^ (n.log2 + 1) := Nat.mul_lt_mul_of_pos_left a3 (Nat.two_pow_pos _)
          rw [← Nat.pow_add] at a4
          have a5 : 2 ^ m.log2 ≤ m := Nat.log2_self_le hm
          have a6 : 2 ^ m.log2 * 2 ^ more ≤ D := by rw [hD]; exact Nat.mul_le_mul_right _ a5
          rw [← Nat.pow_add] at a6
          have a7 : 2 ^ (f.fractionBits + 1 + (n.log2 + 1)) ≤ 2 ^ (m.log2 + more) := Nat.pow_le_pow_right (by omega) (by omega)
          rw [Nat.add_mul, Nat.one_mul, Nat.mul_comm] at a2
          omega
      have hnum : 2 * q + (r != 0).toNat ≠ 0 := by have := Nat.two_pow_pos (f.fractionBits + 1); omega
      have hlog : f.fractionBits + 2 ≤ (2 * q + (r != 0).toNat).log2 := by
        rw [Nat.le_log2 hnum, Nat.pow_succ]
        omega
      subst h
      -- bound of the told number
      have hQ2 : ((2 * q + (r != 0).toNat : Nat) : Rat) * tp place ≤ tp Q := by
        by_cases hr0 : (r != 0) = true
        · rw [if_pos hr0] at hcase
          have hpq : place < Q := by
            refine lt_of_tp ?_
            have : (1 : Rat) ≤ ((2 * q : Nat) : Rat) := by exact_mod_cast (show 1 ≤ 2 * q by have := Nat.two_pow_pos (f.fractionBits + 1); omega)
            have := Rat.mul_le_mul_of_nonneg_right this (Rat.le_of_lt hu)
            grind
          obtain ⟨e, he⟩ : ∃ e : Nat, Q = e + place := ⟨(Q - place).toNat, by omega⟩
          have e5 : tp Q = ((2 ^ e : Nat) : Rat) * tp place := by rw [he, tp_add, tp_nat]
          rw [e5] at hVQ ⊢
          have h7 : ((2 * q : Nat) : Rat) * tp place < ((2 ^ e : Nat) : Rat) * tp place := by grind
          have h8 := Rat.lt_of_mul_lt_mul_right h7 (Rat.le_of_lt hu)
          have h9 : 2 * q < 2 ^ e := by exact_mod_cast h8
          rw [hr0, Bool.toNat_true]
          exact Rat.mul_le_mul_of_nonneg_right (by exact_mod_cast (show 2 * q + 1 ≤ 2 ^ e by omega)) (Rat.le_of_lt hu)
        · rw [if_neg hr0] at hcase
          have hr1 : (r != 0) = false := by simpa using hr0
          rw [hr1, Bool.toNat_false, Nat.add_zero, ← hcase]
          exact hVQ
      obtain ⟨g1, last, g2, g3⟩ := nearest_at f (s ^^ t) (2 * q + (r != 0).toNat) place h2 Q hQ hQ2
      refine ⟨g1, last, ?_⟩
      have g2' := g2 hnum
      have hpl2 : place + 2 ≤ last := by omega
      show RndAt f last (sg (s ^^ t) * V) (dv (f.read (f.nearest (s ^^ t) (2 * q + (r != 0).toNat) place)))
      rcases hs : (s ^^ t)
      · rw [hs] at g3
        have e1 : ∀ z : Rat, sg false * z = z := fun z => by simp [sg]
        rw [e1] at g3 ⊢
        exact sticky f g3 hpl2 hcase
      · rw [hs] at g3
        have e1 : ∀ z : Rat, sg true * z = -z := fun z => by simp only [sg]; grind
        rw [e1] at g3 ⊢
        have g4 := g3.neg
        rw [Rat.neg_neg] at g4
        have g5 := (sticky f g4 hpl2 hcase).neg
        rwa [Rat.neg_neg] at g5
    | infinity => cases hy
    | nan => cases hy
  | infinity => cases hx
  | nan => cases hx
end Go.Proofs.Ytpnkapdemgieaaa
set_option linter.unusedSimpArgs false
set_option linter.unusedVariables false
set_option linter.unusedSectionVars false
namespace Go.Proofs.Ytpnkapdemgieaaa
open Go Go.RowKit
/-- A finite word. -/
def fnt (k : FloatKind) (x : Nat) : Bool := isNum (k.format.read x)
/-- Its value. -/
def fv (k : FloatKind) (x : Nat) : Rat := dv (k.format.read x)
theorem fmt_exp (k : FloatKind) : 4 ≤ 2 ^ k.format.exponentBits := by cases k <;> decide
def topK : FloatKind → Int
  | .f32 => 128
  | .f64 => 1024
def lowK : FloatKind → Int
  | .f32 => -149
  | .f64 => -1074
def digK : FloatKind → Nat
  | .f32 => 23
  | .f64 => 52
theorem top_eq (k : FloatKind) : top k.format = topK k := by cases k <;> decide
theorem low_eq (k : FloatKind) : k.format.leastPlace = lowK k := by cases k <;> decide
theorem dig_eq (k : FloatKind) : k.format.fractionBits = digK k := by cases k <;> rfl
/-- The exact operation. -/
def ex (op : BinOp) (a b : Rat) : Rat := match op with | .add => a + b | .sub => a - b | .mul => a * b | .quo => a / b | _ => 0
theorem fop_rnd (op : BinOp) (hop : arithOp op = true) (k : FloatKind) {x y : Nat} (hx : fnt k x = true) (hy : fnt k y = true) (h0 : op = .quo → fv k y ≠ 0) (Q : Int) (hQ : Q < topK k) (h1 : ex op (fv k x) (fv k y) ≤ tp Q) (h2 : -ex op (fv k x) (fv k y) ≤ tp Q) :
    fnt k (fop op k x y) = true ∧ Rnd k.format (ex op (fv k x) (fv k y)) (fv k (fop op k x y)) := by
  have hQ' : Q < top k.format := by rw [top_eq]; exact hQ
  have he := fmt_exp k
  unfold fnt at hx hy
  unfold fv at h0 h1 h2 ⊢
  unfold fnt fop
  cases op <;> simp [arithOp] at hop
  · -- add
    have h : ∃ d, (k.format.read x).sum (k.format.read y) = some d := by
      cases h3 : k.format.read x <;> rw [h3] at hx <;> first | cases hx | skip
      cases h4 : k.format.read y <;> rw [h4] at hy <;> first | cases hy | skip
      exact ⟨_, rfl⟩
    obtain ⟨d, hd⟩ := h
    have hb : floatBits .add k x y = some (k.format.write d) := by simp [floatBits, Ieee.Format.add, hd]
    rw [hb, Option.getD_some]
    obtain ⟨g1, g2⟩ := sum_val hx hy hd
    have e : ex .add (dv (k.format.read x)) (dv (k.format.read y)) = dv d := g2.symm
    rw [e] at h1 h2 ⊢
    exact write_rnd k.format d g1 he Q hQ' h1 h2
  · -- sub
    have hy' := opposite_val hy
    have h : ∃ d, (k.format.read x).sum (k.format.read y).opposite = some d := by
      cases h3 : k.format.read x <;> rw [h3] at hx <;> first | cases hx | skip
      cases h4 : k.format.read y <;> rw [h4] at hy <;> first | cases hy | skip
      exact ⟨_, rfl⟩
    obtain ⟨d, hd⟩ := h
    have hb : floatBits .sub k x y = some (k.format.write d) := by simp [floatBits, Ieee.Format.sub, hd]
    rw [hb, Option.getD_some]
    obtain ⟨g1, g2⟩ := sum_val hx hy'.1 hd
    have e : ex .sub (dv (k.format.read x)) (dv (k.format.read y)) = dv d := by rw [g2, hy'.2, ex, Rat.sub_eq_add_neg]
    rw [e] at h1 h2 ⊢
    exact write_rnd k.format d g1 he Q hQ' h1 h2
  · -- mul
    have h : ∃ d, (k.format.read x).product (k.format.read y) = some d := by
      cases h3 : k.format.read x <;> rw [h3] at hx <;> first | cases hx | skip
      cases h4 : k.format.read y <;> rw [h4] at hy <;> first | cases hy | skip
      exact ⟨_, rfl⟩
    obtain ⟨d, hd⟩ := h
    have hb : floatBits .mul k x y = some (k.format.write d) := by simp [floatBits, Ieee.Format.mul, hd]
    rw [hb, Option.getD_some]
    obtain ⟨g1, g2⟩ := product_val hx hy hd
    have e : ex .mul (dv (k.format.read x)) (dv (k.format.read y)) = dv d := g2.symm
    rw [e] at h1 h2 ⊢
    exact write_rnd k.format d g1 he Q hQ' h1 h2
  · -- quo
    have hn0 := h0 rfl
    have h : ∃ d, (k.format.read x).quotient (k.format.fractionBits + 2) (k.format.read y) = some d := by
      cases h3 : k.format.read x <;> rw [h3] at hx <;> first | cases hx | skip
      cases h4 : k.format.read y <;> rw [h4] at hy <;> first | cases hy | skip
      rw [h4] at hn0
      have hnz := dv_zero hn0
      exact ⟨_, by simp only [Ieee.Datum.quotient, if_neg hnz]; rfl⟩
    obtain ⟨d, hd⟩ := h
    have hb : floatBits .quo k x y = some (k.format.write d) := by simp [floatBits, Ieee.Format.div, hd]
    rw [hb, Option.getD_some]
    exact div_rnd k.format hx hy hn0 he hd Q hQ' h1 h2
/-- A number that a format has. -/
def Rep (k : FloatKind) (c : Rat) : Prop := (∃ z q : Int, z.natAbs < 2 ^ (digK k + 1) ∧ lowK k ≤ q ∧ c = z * tp q) ∧ c ≤ tp (topK k - 1) ∧ -c ≤ tp (topK k - 1)
theorem Rnd.rep_le {k : FloatKind} {v r c : Rat} (h : Rnd k.format v r) (hc : Rep k c) (hv : v ≤ c) : r ≤ c := by
  obtain ⟨⟨z, q, h1, h2, rfl⟩, _⟩ := hc
  exact h.le (by rw [dig_eq]; exact h1) (by rw [low_eq]; exact h2) hv
theorem Rnd.rep_ge {k : FloatKind} {v r c : Rat} (h : Rnd k.format v r) (hc : Rep k c) (hv : c ≤ v) : c ≤ r := by
  obtain ⟨⟨z, q, h1, h2, rfl⟩, _⟩ := hc
  exact h.ge (by rw [dig_eq]; exact h1) (by rw [low_eq]; exact h2) hv
theorem Rep.neg {k : FloatKind} {c : Rat} (h : Rep k c) : Rep k (-c) := by
  obtain ⟨⟨z, q, h1, h2, rfl⟩, h3, h4⟩ := h
  exact ⟨⟨-z, q, by omega, h2, by rw [Rat.intCast_neg]; grind⟩, h4, by rw [Rat.neg_neg]; exact h3⟩
theorem Rep.int {k : FloatKind} (z : Int) (h : z.natAbs < 2 ^ (digK k + 1)) : Rep k (z : Rat) := by
  have h1 : (z : Rat) ≤ ((2 ^ (digK k + 1) : Nat) : Rat) := by
    have : z ≤ ((2 ^ (digK k + 1) : Nat) : Int) := by omega
    exact_mod_cast this
  have h2 : -(z : Rat) ≤ ((2 ^ (digK k + 1) : Nat) : Rat) := by
    have : -z ≤ ((2 ^ (digK k + 1) : Nat) : Int) := by omega
    exact_mod_cast this
  have h3 : ((2 ^ (digK k + 1) : Nat) : Rat) ≤ tp (topK k - 1) := by rw [← tp_nat]; exact tp_le (by cases k <;> decide)
  exact ⟨⟨z, 0, h, by cases k <;> decide, by rw [tp_zero, Rat.mul_one]⟩, Rat.le_trans h1 h3, Rat.le_trans h2 h3⟩
theorem Rep.tp {k : FloatKind} (q : Int) (h1 : lowK k ≤ q) (h2 : q < topK k) : Rep k (tp q) := by
  have h3 := tp_pos q
  have h4 := tp_pos (topK k - 1)
  exact ⟨⟨1, q, by cases k <;> decide, h1, by simp⟩, tp_le (by omega), by grind⟩
theorem Rep.mul_tp {k : FloatKind} (z q : Int) (h : z.natAbs < 2 ^ (digK k + 1)) (h1 : lowK k ≤ q) (h2 : q + digK k + 1 < topK k) : Rep k (z * Go.Proofs.Ytpnkapdemgieaaa.tp q) := by
  have hq := tp_pos q
  have e : ((2 ^ (digK k + 1) : Nat) : Rat) * Go.Proofs.Ytpnkapdemgieaaa.tp q ≤ Go.Proofs.Ytpnkapdemgieaaa.tp (topK k - 1) := by
    rw [← tp_nat, ← tp_add]; exact tp_le (by omega)
  have a1 : (z : Rat) ≤ ((2 ^ (digK k + 1) : Nat) : Rat) := by
    have : z ≤ ((2 ^ (digK k + 1) : Nat) : Int) := by omega
    exact_mod_cast this
  have a2 : -(z : Rat) ≤ ((2 ^ (digK k + 1) : Nat) : Rat) := by
    have : -z ≤ ((2 ^ (digK k + 1) : Nat) : Int) := by omega
    exact_mod_cast this
  have b1 := Rat.mul_le_mul_of_nonneg_right a1 (Rat.le_of_lt hq)
  have b2 := Rat.mul_le_mul_of_nonneg_right a2 (Rat.le_of_lt hq)
  exact ⟨⟨z, q, h, h1, rfl⟩, by grind, by grind⟩
/-- Between two numbers. -/
def Btw (k : FloatKind) (x : Nat) (a b : Rat) : Prop := fnt k x = true ∧ a ≤ fv k x ∧ fv k x ≤ b
theorem fop_btw (op : BinOp) (hop : arithOp op = true) (k : FloatKind) {x y : Nat} {a b : Rat} (hx : fnt k x = true) (hy : fnt k y = true) (h0 : op = .quo → fv k y ≠ 0) (ha : Rep k a) (hb : Rep k b) (h1 : a ≤ ex op (fv k x) (fv k y)) (h2 : ex op (fv k x) (fv k y) ≤ b) : Btw k (fop op k x y) a b := by
  have h3 := ha.2.2
  have h4 := hb.2.1
  obtain ⟨g1, g2⟩ := fop_rnd op hop k hx hy h0 (topK k - 1) (by omega) (by grind) (by grind)
  exact ⟨g1, g2.rep_ge ha h1, g2.rep_le hb h2⟩
/-- At most so great. -/
def Bnd (k : FloatKind) (x : Nat) (b : Rat) : Prop := fnt k x = true ∧ -b ≤ fv k x ∧ fv k x ≤ b
theorem Bnd.btw {k : FloatKind} {x : Nat} {b : Rat} (h : Btw k x (-b) b) : Bnd k x b := h
theorem Bnd.mono {k : FloatKind} {x : Nat} {b c : Rat} (h : Bnd k x b) (hc : b ≤ c) : Bnd k x c := ⟨h.1, by have := h.2.1; grind, by have := h.2.2; grind⟩
theorem Bnd.nonneg {k : FloatKind} {x : Nat} {b : Rat} (h : Bnd k x b) : 0 ≤ b := by have := h.2.1; have := h.2.2; grind
theorem mul_bd {a b x y : Rat} (h1 : -a ≤ x) (h2 : x ≤ a) (h3 : -b ≤ y) (h4 : y ≤ b) : -(a * b) ≤ x * y ∧ x * y ≤ a * b := by
  have p1 := Rat.mul_nonneg (show 0 ≤ a - x by grind) (show 0 ≤ b - y by grind)
  have p2 := Rat.mul_nonneg (show 0 ≤ a + x by grind) (show 0 ≤ b + y by grind)
  have p3 := Rat.mul_nonneg (show 0 ≤ a - x by grind) (show 0 ≤ b + y by grind)
  have p4 := Rat.mul_nonneg (show 0 ≤ a + x by grind) (show 0 ≤ b - y by grind)
  constructor <;> grind
theorem Bnd.mul {k : FloatKind} {x y : Nat} {a b c : Rat} (hx : Bnd k x a) (hy : Bnd k y b) (hc : Rep k c) (h : a * b ≤ c) : Bnd k (fop .mul k x y) c := by
  have := mul_bd hx.2.1 hx.2.2 hy.2.1 hy.2.2
  exact Bnd.btw (fop_btw .mul rfl k hx.1 hy.1 (by simp) hc.neg hc (by simp only [ex]; grind) (by simp only [ex]; grind))
theorem Bnd.add {k : FloatKind} {x y : Nat} {a b c : Rat} (hx : Bnd k x a) (hy : Bnd k y b) (hc : Rep k c) (h : a + b ≤ c) : Bnd k (fop .add k x y) c := by
  have h1 := hx.2; have h2 := hy.2
  exact Bnd.btw (fop_btw .add rfl k hx.1 hy.1 (by simp) hc.neg hc (by simp only [ex]; grind) (by simp only [ex]; grind))
theorem Bnd.sub {k : FloatKind} {x y : Nat} {a b c : Rat} (hx : Bnd k x a) (hy : Bnd k y b) (hc : Rep k c) (h : a + b ≤ c) : Bnd k (fop .sub k x y) c := by
  have h1 := hx.2; have h2 := hy.2
  exact Bnd.btw (fop_btw .sub rfl k hx.1 hy.1 (by simp) hc.neg hc (by simp only [ex]; grind) (by simp only [ex]; grind))
/-- By a number that is at least d. -/
theorem Bnd.div {k : FloatKind} {x y : Nat} {a c d : Rat} (hx : Bnd k x a) (hy : fnt k y = true) (hd : 0 < d) (hyd : d ≤ fv k y) (hc : Rep k c) (h : a ≤ c * d) : Bnd k (fop .quo k x y) c := by
  have h1 := hx.2
  have hy0 : 0 < fv k y := by grind
  have hne : fv k y ≠ 0 := by grind
  have e : fv k x / fv k y * fv k y = fv k x := by grind
  have hc0 : 0 ≤ c := by
    have := hx.nonneg
    by_cases h0 : 0 ≤ c
    · exact h0
    · have := Rat.mul_pos (show 0 < -c by grind) hd
      grind
  have h2 := Rat.mul_le_mul_of_nonneg_left hyd hc0
  exact Bnd.btw (fop_btw .quo rfl k hx.1 hy (fun _ => hne) hc.neg hc
    (by simp only [ex]; exact Rat.le_of_mul_le_mul_right (c := fv k y) (by grind) hy0)
    (by simp only [ex]; exact Rat.le_of_mul_le_mul_right (c := fv k y) (by grind) hy0))
/-! ### Order -/
theorem ordv (k : FloatKind) {x y : Nat} (hx : fnt k x = true) (hy : fnt k y = true) : (k.format.order x y = some .lt ∧ fv k x < fv k y) ∨ (k.format.order x y = some .eq ∧ fv k x = fv k y) ∨ (k.format.order x y = some .gt ∧ fv k y < fv k x) := by
  unfold fnt at hx hy
  unfold fv Ieee.Format.order
  cases h3 : k.format.read x with
  | number s m i =>
    cases h4 : k.format.read y with
    | number t n j =>
      simp only [Ieee.Datum.order]
      obtain ⟨a, ha⟩ : ∃ a : Nat, i = min i j + a := ⟨(i - min i j).toNat, by omega⟩
      obtain ⟨b, hb⟩ : ∃ b : Nat, j = min i j + b := ⟨(j - min i j).toNat, by omega⟩
      have ea : (i - min i j).toNat = a := by omega
      have eb : (j - min i j).toNat = b := by omega
      rw [ea, eb]
      have hs := signed_val s m a
      have ht := signed_val t n b
      generalize Ieee.signed s m a = A at hs ⊢
      generalize Ieee.signed t n b = B at ht ⊢
      generalize min i j = base at *
      have hp := tp_pos base
      have e1 : dv (.number s m i) = ((A : Int) : Rat) * tp base := by
        rw [hs, ha]; simp only [dv]; rw [tp_add]; grind
      have e2 : dv (.number t n j) = ((B : Int) : Rat) * tp base := by
        rw [ht, hb]; simp only [dv]; rw [tp_add]; grind
      rw [e1, e2]
      rcases Int.lt_trichotomy A B with h | h | h
      · left
        refine ⟨by rw [Int.compare_eq_lt.2 h], ?_⟩
        exact Rat.mul_lt_mul_of_pos_right (by exact_mod_cast h) hp
      · right; left
        subst h
        exact ⟨by rw [Int.compare_eq_eq.2 rfl], rfl⟩
      · right; right
        refine ⟨by rw [Int.compare_eq_gt.2 h], ?_⟩
        exact Rat.mul_lt_mul_of_pos_right (by exact_mod_cast h) hp
    | infinity => rw [h4] at hy; cases hy
    | nan => rw [h4] at hy; cases hy
  | infinity => rw [h3] at hx; cases hx
  | nan => rw [h3] at hx; cases hx
theorem fltv {k : FloatKind} {x y : Nat} (hx : fnt k x = true) (hy : fnt k y = true) : flt k x y = decide (fv k x < fv k y) := by
  unfold flt
  rcases ordv k hx hy with ⟨h, h'⟩ | ⟨h, h'⟩ | ⟨h, h'⟩ <;> rw [h]
  · simp [h']
  · rw [h']; simp [Rat.lt_irrefl]
  · have : ¬ fv k x < fv k y := by grind
    simp [this]
theorem flev {k : FloatKind} {x y : Nat} (hx : fnt k x = true) (hy : fnt k y = true) : fle k x y = decide (fv k x ≤ fv k y) := by
  unfold fle
  rcases ordv k hx hy with ⟨h, h'⟩ | ⟨h, h'⟩ | ⟨h, h'⟩ <;> rw [h]
  · have : fv k x ≤ fv k y := by grind
    simp [this]
  · rw [h']; simp [Rat.le_refl]
  · have : ¬ fv k x ≤ fv k y := by grind
    simp [this]
theorem fgtv {k : FloatKind} {x y : Nat} (hx : fnt k x = true) (hy : fnt k y = true) : fgt k x y = decide (fv k y < fv k x) := by
  unfold fgt
  rcases ordv k hx hy with ⟨h, h'⟩ | ⟨h, h'⟩ | ⟨h, h'⟩ <;> rw [h]
  · have : ¬ fv k y < fv k x := by grind
    simp [this]
  · rw [h']; simp [Rat.lt_irrefl]
  · simp [h']
theorem fgev {k : FloatKind} {x y : Nat} (hx : fnt k x = true) (hy : fnt k y = true) : fge k x y = decide (fv k y ≤ fv k x) := by
  unfold fge
  rcases ordv k hx hy with ⟨h, h'⟩ | ⟨h, h'⟩ | ⟨h, h'⟩ <;> rw [h]
  · have : ¬ fv k y ≤ fv k x := by grind
    simp [this]
  · rw [h']; simp [Rat.le_refl]
  · have : fv k y ≤ fv k x := by grind
    simp [this]
theorem feqv {k : FloatKind} {x y : Nat} (hx : fnt k x = true) (hy : fnt k y = true) : feq k x y = decide (fv k x = fv k y) := by
  unfold feq
  rcases ordv k hx hy with ⟨h, h'⟩ | ⟨h, h'⟩ | ⟨h, h'⟩ <;> rw [h]
  · have : ¬ fv k x = fv k y := by grind
    simp [this]
  · simp [h']
  · have : ¬ fv k x = fv k y := by grind
    simp [this]
theorem fnt_not_nan {k : FloatKind} {x : Nat} (h : fnt k x = true) : isN k x = false := by
  unfold fnt at h
  unfold isN FloatKind.decode
  cases h3 : k.format.read x <;> rw [h3] at h <;> first | rfl | cases h
theorem fnt_cn {k : FloatKind} {x : Nat} (h : fnt k x = true) : cn k x = x := cn_of_not (fnt_not_nan h)
/-! ### The opposite, conversions -/
theorem read_neg (k : FloatKind) (b : Nat) : k.format.read (Op.negFloat k b) = (k.format.read b).opposite := by
  have key : ∀ (f : Ieee.Format), f.read (b ^^^ 2 ^ (f.exponentBits + f.fractionBits)) = (f.read b).opposite := by
    intro f
    have e : (b ^^^ 2 ^ (f.exponentBits + f.fractionBits)) % f.signWeight = b % f.signWeight := by
      unfold Ieee.Format.signWeight
      rw [Nat.xor_mod_two_pow, Nat.mod_self, Nat.xor_zero]
    have e2 : ((b ^^^ 2 ^ (f.exponentBits + f.fractionBits)) / f.signWeight % 2 == 1) = !(b / f.signWeight % 2 == 1) := by
      unfold Ieee.Format.signWeight
      rw [← Nat.shiftRight_eq_div_pow, ← Nat.shiftRight_eq_div_pow, Nat.shiftRight_xor_distrib, Nat.shiftRight_eq_div_pow (2 ^ _), Nat.div_self (Nat.two_pow_pos _)]
      generalize b >>> (f.exponentBits + f.fractionBits) = c
      rcases Nat.mod_two_eq_zero_or_one c with h | h
      · have : (c ^^^ 1) % 2 = 1 := by rw [show (2 : Nat) = 2 ^ 1 from rfl, Nat.xor_mod_two_pow]; rw [show (2 : Nat) ^ 1 = 2 from rfl, h]; rfl
        rw [h, this]; rfl
      · have : (c ^^^ 1) % 2 = 0 := by rw [show (2 : Nat) = 2 ^ 1 from rfl, Nat.xor_mod_two_pow]; rw [show (2 : Nat) ^ 1 = 2 from rfl, h]; rfl
        rw [h, this]; rfl
    unfold Ieee.Format.read
    simp only [e, e2]
    split
    · rfl
    · split
      · rfl
      · split <;> rfl
  cases k <;> exact key _
theorem fneg_val {k : FloatKind} {x : Nat} (h : fnt k x = true) : fnt k (fneg k x) = true ∧ fv k (fneg k x) = -fv k x := by
  have hn := fnt_not_nan h
  unfold fneg fnt fv
  rw [if_neg (by rw [hn]; decide), read_neg]
  exact opposite_val h
theorem Bnd.neg {k : FloatKind} {x : Nat} {b : Rat} (h : Bnd k x b) : Bnd k (fneg k x) b := by
  obtain ⟨h1, h2⟩ := fneg_val h.1
  have h3 := h.2
  exact ⟨h1, by grind, by grind⟩
theorem read_bd (f : Ieee.Format) {x : Nat} {s : Bool} {m : Nat} {p : Int} (h : f.read x = .number s m p) : m < 2 ^ (f.fractionBits + 1) ∧ f.leastPlace ≤ p ∧ p ≤ f.leastPlace + (2 ^ f.exponentBits : Nat) := by
  have hb : 0 < f.binade := binade_pos' f
  have e2 : 2 ^ (f.fractionBits + 1) = 2 * f.binade := by unfold Ieee.Format.binade; rw [Nat.pow_succ]; omega
  have hE : f.infRung / f.binade = 2 ^ f.exponentBits - 1 := by unfold Ieee.Format.infRung; exact Nat.mul_div_cancel _ hb
  have hE0 : (0 : Int) < ((2 ^ f.exponentBits : Nat) : Int) := by exact_mod_cast Nat.two_pow_pos f.exponentBits
  unfold Ieee.Format.read at h
  simp only at h
  split at h
  · injection h with h1 h2 h3
    omega
  · split at h
    · rename_i h4 h5
      injection h with h1 h2 h3
      have := Nat.mod_lt (x % f.signWeight) hb
      have h6 : x % f.signWeight / f.binade ≤ f.infRung / f.binade := Nat.div_le_div_right (Nat.le_of_lt h5)
      rw [hE] at h6
      generalize 2 ^ f.exponentBits = E at *
      generalize x % f.signWeight / f.binade = y at *
      omega
    · split at h <;> exact absurd h (by simp)
theorem wide_val {x : Nat} (h : fnt .f32 x = true) : fnt .f64 (wide x) = true ∧ fv .f64 (wide x) = fv .f32 x := by
  have hn := fnt_not_nan h
  unfold wide
  rw [if_neg (by rw [hn]; decide)]
  unfold fnt at h
  cases h3 : FloatKind.f32.format.read x with
  | number s m p =>
    obtain ⟨b1, b2, b3⟩ := read_bd _ h3
    have e1 : FloatKind.f32.format.fractionBits = 23 := rfl
    have e2 : FloatKind.f32.format.leastPlace = -149 := by decide
    have e3 : FloatKind.f32.format.exponentBits = 8 := rfl
    rw [e1] at b1
    rw [e2] at b2 b3
    rw [e3] at b3
    have ed : FloatKind.f32.decode x = .number s m p := h3
    have hm0 : (0 : Rat) ≤ m := by exact_mod_cast Nat.zero_le m
    have hm1 : (m : Rat) ≤ ((2 ^ 24 : Nat) : Rat) := by exact_mod_cast Nat.le_of_lt b1
    have hp := tp_pos p
    have hup : (m : Rat) * tp p ≤ tp 1023 := by
      have a1 := Rat.mul_le_mul_of_nonneg_right hm1 (Rat.le_of_lt hp)
      have a2 : ((2 ^ 24 : Nat) : Rat) * tp p ≤ tp 1023 := by rw [← tp_nat, ← tp_add]; exact tp_le (by omega)
      exact Rat.le_trans a1 a2
    have hlo := Rat.mul_nonneg hm0 (Rat.le_of_lt hp)
    have hpp := tp_pos 1023
    have hsg : dv (.number s m p) ≤ tp 1023 ∧ -dv (.number s m p) ≤ tp 1023 := by
      simp only [dv]
      rcases abs_sg s ((m : Rat) * tp p) with ⟨e, _⟩ | ⟨e, _⟩ <;> rw [e] <;> constructor <;> grind
    have key := write_rnd FloatKind.f64.format (.number s m p) rfl (fmt_exp .f64) 1023 (by rw [top_eq]; decide) hsg.1 hsg.2
    have e4 : fv .f32 x = dv (.number s m p) := by unfold fv; rw [h3]
    rw [e4, ed]
    refine ⟨key.1, ?_⟩
    have e5 : dv (.number s m p) = ((if s then -(m : Int) else m : Int) : Rat) * tp p := by
      cases s
      · rw [if_neg (by decide), Rat.intCast_natCast]; simp [dv, sg]
      · rw [if_pos rfl, Rat.intCast_neg, Rat.intCast_natCast]; simp only [dv, sg]; grind
    refine key.2.eq (z := if s then -(m : Int) else m) (q := p) ?_ (by rw [low_eq]; show (-1074 : Int) ≤ p; omega) e5
    rw [dig_eq]
    show _ < 2 ^ 53
    split <;> omega
  | infinity => rw [h3] at h; cases h
  | nan => rw [h3] at h; cases h
/-- A word whose datum is known. -/
theorem fv_of {k : FloatKind} {x : Nat} {s : Bool} {m : Nat} {p : Int} (h : k.format.read x = .number s m p) : fnt k x = true ∧ fv k x = sg s * ((m : Rat) * tp p) := by
  unfold fnt fv; rw [h]; exact ⟨rfl, rfl⟩
end Go.Proofs.Ytpnkapdemgieaaa
set_option linter.unusedSimpArgs false
set_option linter.unusedVariables false
set_option linter.unusedSectionVars false
namespace Go.Proofs.Ytpnkapdemgieaaa
open Go Go.RowKit
/-- A whole number as a word. -/
def fI (n : Int) : Nat := cn .f64 (floatOfInt .f64 n)
/-- The term of the k-th round, and the sum ahead of it. -/
def erT (x : Nat) : Nat → Nat
  | 0 => x
  | k + 1 => fop .quo .f64 (fop .mul .f64 (fop .mul .f64 (erT x k) (fneg .f64 (fop .mul .f64 x x))) (fI (2 * k + 1))) (fI ((k + 1) * (2 * k + 3)))
def erS (x : Nat) : Nat → Nat
  | 0 => cn .f64 0
  | k + 1 => fop .add .f64 (erS x k) (erT x k)
def erV (x : Nat) : Nat := if fge .f64 x (cn .f64 4616189618054758400) then cn .f64 4607182418800017408 else if fle .f64 x (cn .f64 13839561654909534208) then cn .f64 13830554455654793216 else fop .mul .f64 (cn .f64 4607760587169110893) (erS x 60)
theorem cn_erV (x : Nat) : cn .f64 (erV x) = erV x := by
  unfold erV; split
  · exact cn_cn _ _
  · split
    · exact cn_cn _ _
    · exact cn_fop _ _ _ _
/-! ### How great -/
theorem ofInt_val (k : FloatKind) (n : Int) (h : n.natAbs < 2 ^ (digK k + 1)) : fnt k (floatOfInt k n) = true ∧ fv k (floatOfInt k n) = n := by
  have e : dv (.number (decide (n < 0)) n.natAbs 0) = (n : Rat) := by
    simp only [dv, tp_zero, Rat.mul_one]
    by_cases h0 : n < 0
    · have : (n.natAbs : Int) = -n := by omega
      have h2 : ((n.natAbs : Nat) : Rat) = ((-n : Int) : Rat) := by rw [← this]; rfl
      rw [h2]; simp [h0, sg]; grind
    · have : (n.natAbs : Int) = n := by omega
      have h2 : ((n.natAbs : Nat) : Rat) = ((n : Int) : Rat) := by rw [← Rat.intCast_natCast, this]
      rw [h2]; simp [h0, sg]
  have hup : (n : Rat) ≤ tp (digK k + 1) ∧ -(n : Rat) ≤ tp (digK k + 1) := by
    have e1 : tp ((digK k : Int) + 1) = ((2 ^ (digK k + 1) : Nat) : Rat) := tp_nat (digK k + 1)
    rw [e1]
    have a1 : n ≤ ((2 ^ (digK k + 1) : Nat) : Int) := by omega
    have a2 : -n ≤ ((2 ^ (digK k + 1) : Nat) : Int) := by omega
    exact ⟨by exact_mod_cast a1, by exact_mod_cast a2⟩
  have key := write_rnd k.format (.number (decide (n < 0)) n.natAbs 0) rfl (fmt_exp k) (digK k + 1) (by rw [top_eq]; cases k <;> decide) (by rw [e]; exact hup.1) (by rw [e]; exact hup.2)
  rw [e] at key
  refine ⟨key.1, ?_⟩
  exact key.2.eq (z := n) (q := 0) (by rw [dig_eq]; exact h) (by rw [low_eq]; cases k <;> decide) (by rw [tp_zero, Rat.mul_one])
theorem fnt_fin (k : FloatKind) (x : Nat) : fnt k x = fin k x := (fin_num k x).symm
/-! ### Where the counter stands -/
/-! ### The exponential function, and how fast a front goes -/
def exP (t : Nat) : Nat → Nat
  | 0 => cn .f64 4607182418800017408
  | j + 1 => fop .add .f64 (cn .f64 4607182418800017408) (fop .quo .f64 (fop .mul .f64 t (exP t j)) (fI (12 - (j : Int))))
def exQ (p : Nat) : Nat → Nat
  | 0 => p
  | j + 1 => fop .mul .f64 (exQ p j) (exQ p j)
def exV (y : Nat) : Nat := exQ (exP (fop .quo .f64 y (cn .f64 4643211215818981376)) 12) 8
theorem cn_exP (t j : Nat) : cn .f64 (exP t j) = exP t j := by cases j; exact cn_cn _ _; exact cn_fop _ _ _ _
theorem cn_exQ {p : Nat} (h : cn .f64 p = p) (j : Nat) : cn .f64 (exQ p j) = exQ p j := by cases j; exact h; exact cn_fop _ _ _ _
theorem cn_exV (y : Nat) : cn .f64 (exV y) = exV y := cn_exQ (cn_exP _ _) _
end Go.Proofs.Ytpnkapdemgieaaa
set_option linter.unusedSimpArgs false
set_option linter.unusedVariables false
set_option linter.unusedSectionVars false
namespace Go.Proofs.Ytpnkapdemgieaaa
open Go Go.RowKit
/-- The word is the number q. -/
def V (k : FloatKind) (x : Nat) (q : Rat) : Prop := fnt k x = true ∧ fv k x = q
theorem V.btw {k : FloatKind} {x : Nat} {q : Rat} (h : V k x q) : Btw k x q q := ⟨h.1, by rw [h.2]; exact Rat.le_refl, by rw [h.2]; exact Rat.le_refl⟩
theorem V.op (op : BinOp) (hop : arithOp op = true) {k : FloatKind} {x y : Nat} {a b : Rat} (hx : V k x a) (hy : V k y b) (h0 : op = .quo → b ≠ 0) (hr : Rep k (ex op a b)) : V k (fop op k x y) (ex op a b) := by
  have h := fop_btw op hop k hx.1 hy.1 (by rw [hy.2]; exact h0) hr hr (by rw [hx.2, hy.2]; exact Rat.le_refl) (by rw [hx.2, hy.2]; exact Rat.le_refl)
  exact ⟨h.1, Rat.le_antisymm h.2.2 h.2.1⟩
theorem V.eq {k : FloatKind} {x : Nat} {a b : Rat} (h : V k x a) (e : a = b) : V k x b := e ▸ h
theorem V.int (k : FloatKind) (n : Int) (h : n.natAbs < 2 ^ (digK k + 1)) : V k (floatOfInt k n) n := ofInt_val k n h
theorem V.cn {k : FloatKind} {x : Nat} {q : Rat} (h : V k x q) : V k (Go.Proofs.Ytpnkapdemgieaaa.cn k x) q := by rw [fnt_cn h.1]; exact h
theorem tp_n1 : tp (-1) * 2 = 1 := by have := tp_add (-1) 1; rw [tp_one] at this; rw [← this]; exact tp_zero
theorem tp_n2 : tp (-2) * 4 = 1 := by
  have h := tp_n1
  have e : tp (-2) = tp (-1) * tp (-1) := by rw [← tp_add]; rfl
  rw [e]; grind
theorem tp_n3 : tp (-3) * 8 = 1 := by
  have e : tp (-3) = tp (-2) * tp (-1) := by rw [← tp_add]; rfl
  have h := tp_n1
  have h2 := tp_n2
  rw [e]; grind
/-- A whole number of units of a power of two. -/
theorem rep_at {k : FloatKind} (z q : Int) (h : z.natAbs < 2 ^ (digK k + 1)) (h1 : lowK k ≤ q) (h2 : q + digK k + 1 < topK k) {c : Rat} (hc : c = z * tp q) : Rep k c := hc ▸ Rep.mul_tp z q h h1 h2
theorem rep_half {n : Int} (h : n.natAbs < 16777216) : Rep .f32 ((n : Rat) / 2) := rep_at (k := .f32) n (-1) h (by decide) (by decide) (by have := tp_n1; grind)
theorem rep_quarter {n : Int} (h : n.natAbs < 16777216) : Rep .f32 ((n : Rat) / 4) := rep_at (k := .f32) n (-2) h (by decide) (by decide) (by have := tp_n2; grind)
theorem rep_eighth {n : Int} (h : n.natAbs < 16777216) : Rep .f32 ((n : Rat) / 8) := rep_at (k := .f32) n (-3) h (by decide) (by decide) (by have := tp_n3; grind)
theorem c2 : Go.Proofs.Ytpnkapdemgieaaa.cn .f32 1073741824 = floatOfInt .f32 2 := by decide +kernel
theorem c4 : Go.Proofs.Ytpnkapdemgieaaa.cn .f32 1082130432 = floatOfInt .f32 4 := by decide +kernel
theorem c0 : Go.Proofs.Ytpnkapdemgieaaa.cn .f32 0 = floatOfInt .f32 0 := by decide +kernel
theorem c1 : Go.Proofs.Ytpnkapdemgieaaa.cn .f32 1065353216 = floatOfInt .f32 1 := by decide +kernel
theorem V2 : V .f32 (Go.Proofs.Ytpnkapdemgieaaa.cn .f32 1073741824) 2 := by rw [c2]; exact (V.int .f32 2 (by decide)).eq rfl
theorem V4 : V .f32 (Go.Proofs.Ytpnkapdemgieaaa.cn .f32 1082130432) 4 := by rw [c4]; exact (V.int .f32 4 (by decide)).eq rfl
theorem V1 : V .f32 (Go.Proofs.Ytpnkapdemgieaaa.cn .f32 1065353216) 1 := by rw [c1]; exact (V.int .f32 1 (by decide)).eq rfl
theorem V0 : V .f32 (Go.Proofs.Ytpnkapdemgieaaa.cn .f32 0) 0 := by rw [c0]; exact (V.int .f32 0 (by decide)).eq rfl
theorem half_val {n : Int} (h : n.natAbs < 16777216) : V .f32 (fop .quo .f32 (Go.Proofs.Ytpnkapdemgieaaa.cn .f32 (floatOfInt .f32 n)) (Go.Proofs.Ytpnkapdemgieaaa.cn .f32 1073741824)) ((n : Rat) / 2) :=
  V.op .quo rfl (V.int .f32 n h).cn V2 (fun _ => by decide) (rep_half h)
theorem quarter_val {n : Int} (h : n.natAbs < 16777216) : V .f32 (fop .quo .f32 (Go.Proofs.Ytpnkapdemgieaaa.cn .f32 (floatOfInt .f32 n)) (Go.Proofs.Ytpnkapdemgieaaa.cn .f32 1082130432)) ((n : Rat) / 4) :=
  V.op .quo rfl (V.int .f32 n h).cn V4 (fun _ => by decide) (rep_quarter h)
end Go.Proofs.Ytpnkapdemgieaaa
