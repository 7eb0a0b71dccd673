/-
  As XPlanG; besides: what an operation makes may outlive an operation that turns memory (mode 5: it asks only what always holds, and what is told of it stays true under T, the effect of what turns memory). No condition; nothing of the program is named here.
-/
import Derived.Test.YthdmamcbceblpaaGap
set_option linter.unusedSimpArgs false
set_option linter.unusedVariables false
set_option linter.unusedSectionVars false
namespace Go.Proofs.Ythdmamcbceblpaa
open Go Go.RowKit
section
variable {P : Program} {ops : Array Oper} {Q : Exit → Act → World → Prop} {F : World → Prop} {T : World → World → Prop}
def nextH (c : Clm) (i : Nat) (k : World → Prop) (ks : List (Nat × (World → Prop))) : List (Nat × (World → Prop)) := match c.mode with | 5 => ks | _ => nextG c i k ks
def nextP (c : Clm) (i : Nat) (k : World → Prop) (ps : List (Nat × (World → Prop))) : List (Nat × (World → Prop)) := match c.mode with | 5 => (i, k) :: ps | _ => ps
def stepH (P : Program) (ops : Array Oper) (F : World → Prop) (T : World → World → Prop) (I : World → Prop) (o : Oper) (g : GC) (ks ps : List (Nat × (World → Prop))) (a : Act) : Prop :=
  (Region.wanted o (yielded ops a.tmps) = true ∧ (g.c.mode = 0 ∨ g.c.mode = 1 ∨ g.c.mode = 3 ∨ g.c.mode = 4 ∨ g.c.mode = 5) ∧
    (g.c.mode = 0 → ∀ w, uponC P (fun u w' => (∃ n, w' = w.drewN n) ∧ g.c.S (o.op.operands.toList.map a.eval) u) ((execOp a.eval o).run P w)) ∧
    (g.c.mode = 4 → (∀ x v w, g.c.K x v w) ∧ ∀ w, F w → uponC P (fun u w' => Below w.heap.size w w' ∧ g.c.S (o.op.operands.toList.map a.eval) u) ((execOp a.eval o).run P w)) ∧
    (g.c.mode = 1 → ∀ w, I w → depK o ks w → depK o ps w → uponC P (fun u w' => Below w.heap.size w w' ∧ g.c.S (o.op.operands.toList.map a.eval) u ∧ g.c.K (oargs ops o a) u w') ((execOp a.eval o).run P w)) ∧
    (g.c.mode = 3 → ∀ w, I w → depK o ks w → depK o ps w → uponC P (fun u w' => (g.I w' ∧ T w w') ∧ g.c.S (o.op.operands.toList.map a.eval) u ∧ g.c.K (oargs ops o a) u w') ((execOp a.eval o).run P w)) ∧
    (g.c.mode = 5 → (∀ x v w w', g.c.K x v w → T w w' → g.c.K x v w') ∧ ∀ w, F w → depK o ps w → uponC P (fun u w' => Below w.heap.size w w' ∧ g.c.S (o.op.operands.toList.map a.eval) u ∧ g.c.K (oargs ops o a) u w') ((execOp a.eval o).run P w))) ∨
  (Region.wanted o (yielded ops a.tmps) = false ∧ g.c.mode = 0 ∧ g.c.S (o.op.operands.toList.map a.eval) undef)
/-- The walk in the order of the text. -/
def wpH (P : Program) (ops : Array Oper) (Q : Exit → Act → World → Prop) (F : World → Prop) (T : World → World → Prop) : (World → Prop) → List Oper → List GC → Nat → List (Nat × (World → Prop)) → List (Nat × (World → Prop)) → Act → Prop
  | I, [], [], _, ks, ps, a => ∀ w, I w → allK ks w → allK ps w → Q .normal a w
  | I, o :: l, g :: cs, i, ks, ps, a => stepH P ops F T I o g ks ps a ∧ ∀ v, g.c.S (o.op.operands.toList.map a.eval) v → wpH P ops Q F T (invG I g) l cs (i + 1) (nextH g.c i (g.c.K (oargs ops o a) v) ks) (nextP g.c i (g.c.K (oargs ops o a) v) ps) (a.put o.dst v)
  | _, _, _, _, _, _, _ => False
theorem Iat_floatH {I F : World → Prop} (hI : ∀ w, I w → F w) : ∀ (cs : List GC) (p : Nat) (w : World), (∀ j g, j < p → cs[j]? = some g → g.c.mode = 3 → ∀ w, g.I w → F w) → Iat I cs p w → F w
  | cs, 0, w, _, h => by rw [Iat_zero] at h; exact hI w h
  | [], j + 1, w, _, h => hI w h
  | g :: cs, j + 1, w, hg, h => by
    refine Iat_floatH (I := invG I g) (fun w h => ?_) cs j w (fun k g' hk hg' => hg (k + 1) g' (by omega) (by simpa using hg')) h
    by_cases hm : g.c.mode = 3
    · rw [invG_eq hm] at h; exact hg 0 g (by omega) (by simp) hm w h
    · rw [invG_ne hm] at h; exact hI w h
/-- The claims that outlive what turns memory. -/
def standsP (ops : Array Oper) (V : Nat → Value) (l : List Oper) (cs : List GC) (i : Nat) (a : Act) (w : World) (n : Nat) (X : Nat → Prop) : Prop :=
  ∀ (k : Nat) (o : Oper) (c : GC), k < n → l[k]? = some o → cs[k]? = some c → X (i + k) → c.c.mode = 5 → c.c.K (opx ops V l i a k o) (V (i + k)) w
theorem standsP_tail {V : Nat → Value} {o : Oper} {l : List Oper} {c : GC} {cs : List GC} {i : Nat} {a : Act} {w : World} {n : Nat} {X : Nat → Prop} (h : standsP ops V (o :: l) (c :: cs) i a w (n + 1) X) : standsP ops V l cs (i + 1) (a.put o.dst (V i)) w n X := by
  intro k o' c' hk ho hc hX hm
  have := h (k + 1) o' c' (by omega) (by simpa using ho) (by simpa using hc) (by simpa [Nat.add_assoc, Nat.add_comm 1 k] using hX) hm
  rw [opx_succ] at this
  simpa [Nat.add_assoc, Nat.add_comm 1 k] using this
theorem nextH_dep {o : Oper} {c : Clm} {i : Nat} {k : World → Prop} {ks : List (Nat × (World → Prop))} {w : World} (h1 : depB o i = true → k w) (h2 : c.mode ≠ 3 → depK o ks w) : depK o (nextH c i k ks) w := by
  unfold nextH
  split
  · exact h2 (by omega)
  · exact nextG_dep h1 h2
theorem nextH_all {c : Clm} {i : Nat} {k : World → Prop} {ks : List (Nat × (World → Prop))} {w : World} (h1 : k w) (h2 : c.mode ≠ 3 → allK ks w) : allK (nextH c i k ks) w := by
  unfold nextH
  split
  · exact h2 (by omega)
  · exact nextG_all h1 h2
theorem nextP_dep {o : Oper} {c : Clm} {i : Nat} {k : World → Prop} {ps : List (Nat × (World → Prop))} {w : World} (h1 : c.mode = 5 → depB o i = true → k w) (h2 : depK o ps w) : depK o (nextP c i k ps) w := by
  unfold nextP
  split
  · rename_i hm
    refine ⟨?_, h2⟩
    cases hd : depB o i with
    | false => trivial
    | true => exact h1 hm hd
  · exact h2
theorem nextP_all {c : Clm} {i : Nat} {k : World → Prop} {ps : List (Nat × (World → Prop))} {w : World} (h1 : c.mode = 5 → k w) (h2 : allK ps w) : allK (nextP c i k ps) w := by
  unfold nextP
  split
  · rename_i hm
    exact ⟨h1 hm, h2⟩
  · exact h2
/-- What the walk in the order of the text has told of each operation. -/
theorem wpH_unroll {V : Nat → Value} : ∀ (I : World → Prop) (l : List Oper) (cs : List GC) (i : Nat) (ks ps : List (Nat × (World → Prop))) (a : Act), wpH P ops Q F T I l cs i ks ps a → validG V l cs i a →
    (∀ j o, l[j]? = some o → ∃ c ks' ps', cs[j]? = some c ∧ stepH P ops F T (Iat I cs j) o c ks' ps' (puts V (fun k => decide (k < i + j)) l i a) ∧ (∀ w, standsG ops V l cs i a w j (fun k => depB o k = true) → (noBarG cs j → depK o ks w) → depK o ks' w) ∧ ∀ w, standsP ops V l cs i a w j (fun k => depB o k = true) → depK o ps w → depK o ps' w) ∧
    (∀ w, Iat I cs cs.length w → standsG ops V l cs i a w cs.length (fun _ => True) → (noBarG cs cs.length → allK ks w) → standsP ops V l cs i a w cs.length (fun _ => True) → allK ps w → Q .normal (puts V (fun _ => true) l i a) w)
  | I, [], [], i, ks, ps, a, h, hV => ⟨fun j o hj => by simp at hj, fun w hb _ hk _ hp => h w hb (hk fun b cb h1 => by simp at h1) hp⟩
  | I, [], c :: cs, i, ks, ps, a, h, hV => (by unfold wpH at h; exact h.elim)
  | I, o :: l, [], i, ks, ps, a, h, hV => (by unfold wpH at h; exact h.elim)
  | I, o :: l, c :: cs, i, ks, ps, a, h, hV => by
    simp only [wpH] at h
    obtain ⟨h1, h2⟩ := h
    have hS := hV 0 o c (by simp) (by simp)
    rw [opn_zero] at hS
    have ih := wpH_unroll (invG I c) l cs (i + 1) _ _ (a.put o.dst (V i)) (h2 _ hS) (fun k o' c' ho hk => by
      have := hV (k + 1) o' c' (by simpa using ho) (by simpa using hk)
      rw [opn_succ] at this
      simpa [Nat.add_assoc, Nat.add_comm 1 k] using this)
    have bars : ∀ n, noBarG cs n → ∀ (b : Nat) (cb : GC), 0 < b → b < n + 1 → (c :: cs)[b]? = some cb → cb.c.mode ≠ 3 := fun n hn b cb h1 h2 h3 => by
      obtain ⟨b, rfl⟩ : ∃ b', b = b' + 1 := ⟨b - 1, by omega⟩
      exact hn b cb (by omega) (by simpa using h3)
    have bars' : ∀ n, noBarG cs n → c.c.mode ≠ 3 → noBarG (c :: cs) (n + 1) := fun n hn hc b cb h2 h3 => by
      cases b with
      | zero => simp at h3; subst h3; exact hc
      | succ b => exact hn b cb (by omega) (by simpa using h3)
    refine ⟨fun j o' hj => ?_, fun w hb hk hks hkp hps => ?_⟩
    · cases j with
      | zero =>
        simp only [List.getElem?_cons_zero, Option.some.injEq] at hj
        subst hj
        refine ⟨c, ks, ps, by simp, ?_, fun w _ hk => hk fun b cb h1 => by omega, fun w _ hk => hk⟩
        rw [puts_none (o :: l) i a fun k hk => by simpa using hk]
        exact h1
      | succ j =>
        simp only [List.getElem?_cons_succ] at hj
        have e : i + (j + 1) = i + 1 + j := by omega
        have ep : puts V (fun k => decide (k < i + (j + 1))) (o :: l) i a = puts V (fun k => decide (k < i + 1 + j)) l (i + 1) (a.put o.dst (V i)) := by
          simp only [puts, e, show i < i + 1 + j by omega, decide_true, if_true]
        obtain ⟨c', ks', ps', g1, g2, g3, g4⟩ := ih.1 j o' hj
        refine ⟨c', ks', ps', by simpa using g1, by rw [ep]; exact g2, fun w hw hk => g3 w (standsG_tail hw) fun hn => ?_, fun w hw hk => g4 w (standsP_tail hw) ?_⟩
        rotate_left
        · refine nextP_dep (fun hm hd => ?_) hk
          have := hw 0 o c (by omega) (by simp) (by simp) (by simpa using hd) hm
          rw [opx_zero] at this
          exact this
        refine nextH_dep (fun hd => ?_) fun hc => hk (bars' _ hn hc)
        have := hw 0 o c (by omega) (by simp) (by simp) (by simpa using hd) (bars _ hn)
        rw [opx_zero] at this
        exact this
    · simp only [puts, if_true]
      refine ih.2 w hb (standsG_tail hk) (fun hn => ?_) (standsP_tail hkp) ?_
      rotate_left
      · refine nextP_all (fun hm => ?_) hps
        have := hkp 0 o c (by simp) (by simp) (by simp) trivial hm
        rw [opx_zero] at this
        exact this
      refine nextH_all ?_ fun hc => hks (bars' _ hn hc)
      have := hk 0 o c (by simp) (by simp) (by simp) trivial (bars _ hn)
      rw [opx_zero] at this
      exact this
/-- What turns memory stands apart from all that asks the world. -/
def barH (ops : Array Oper) (ms : List Nat) : Bool := (List.range ops.size).all fun i => !(ms[i]? == some 3) || (List.range ops.size).all fun j => j == i || (ms[j]? == some 0) || (ms[j]? == some 4) || (ms[j]? == some 5) ||
  (decide (j < i) && reachB ops 6 i j) || (decide (i < j) && reachB ops 6 j i)
theorem barH_spec {cs : List GC} (h : barH ops (cs.map (·.c.mode)) = true) {i j : Nat} {oi oj : Oper} {ci cj : GC} (hi : ops[i]? = some oi) (hj : ops[j]? = some oj) (hci : cs[i]? = some ci) (hcj : cs[j]? = some cj) (h2 : ci.c.mode = 3) (h0 : cj.c.mode ≠ 0) (h4 : cj.c.mode ≠ 4) (h5 : cj.c.mode ≠ 5) (hne : j ≠ i) :
    (j < i ∧ reachB ops 6 i j = true) ∨ (i < j ∧ reachB ops 6 j i = true) := by
  have hlti : i < ops.size := (Array.getElem?_eq_some_iff.1 hi).1
  have hltj : j < ops.size := (Array.getElem?_eq_some_iff.1 hj).1
  have := List.all_eq_true.1 h i (List.mem_range.2 hlti)
  simp only [List.getElem?_map, hci, Option.map_some, h2, BEq.rfl, Bool.not_true, Bool.false_or] at this
  have := List.all_eq_true.1 this j (List.mem_range.2 hltj)
  simp only [hi, hj, hcj, Option.map_some, Option.getD_some, Bool.or_eq_true, Bool.and_eq_true, decide_eq_true_eq, beq_iff_eq, Option.some.injEq] at this
  rcases this with ((((h | h) | h) | h) | h) | h
  · exact absurd h hne
  · exact absurd h h0
  · exact absurd h h4
  · exact absurd h h5
  · exact .inl h
  · exact .inr h
variable {cs : List GC} {a0 : Act}
theorem wpAny_planH (I0 : World → Prop) (hI0 : ∀ w w', I0 w → Below w.heap.size w w' → I0 w') (hF0 : ∀ w, I0 w → F w) (hFs : ∀ j g, cs[j]? = some g → g.c.mode = 3 → (∀ w, g.I w → F w) ∨ ∀ (i : Nat) (gi : GC), cs[i]? = some gi → gi.c.mode = 4 ∨ gi.c.mode = 5 → reachB ops 6 j i = true)
    (hB : planB ops = true) (hbar : barH ops (cs.map (·.c.mode)) = true) (hlen : cs.length = ops.size) (hw : wpH P ops Q F T I0 ops.toList cs 0 [] [] a0) :
    ∀ (fuel : Nat) (listed : Array Bool) (a : Act) (w : World) (V : Nat → Value), listed.size = ops.size →
      (∀ (k : Nat) (o : Oper) (c : GC), listed.getD k false = true → ops[k]? = some o → cs[k]? = some c → c.c.S (opn V ops.toList 0 a0 k o) (V k)) →
      a = puts V (fun k => listed.getD k false) ops.toList 0 a0 →
      (∃ p, p ≤ cs.length ∧ (∀ k g, cs[k]? = some g → g.c.mode = 3 → (listed.getD k false = true ↔ k < p)) ∧ Iat I0 cs p w) →
      (∀ (k : Nat) (o : Oper) (c : GC), listed.getD k false = true → ops[k]? = some o → cs[k]? = some c → (∀ (b : Nat) (cb : GC), k < b → cs[b]? = some cb → listed.getD b false = true → cb.c.mode ≠ 3) → c.c.K (opx ops V ops.toList 0 a0 k o) (V k) w) →
      (∀ (k : Nat) (o : Oper) (c : GC), listed.getD k false = true → ops[k]? = some o → cs[k]? = some c → c.c.mode = 5 → c.c.K (opx ops V ops.toList 0 a0 k o) (V k) w) →
      (∀ j o, ops[j]? = some o → listed.getD j false = true → ∀ k, depB o k = true → listed.getD k false = true) →
      cnt (fun k => listed.getD k false) ops.size ≤ fuel → wpAny P .any ops Q fuel listed a w := by
  obtain ⟨hsel, hpl⟩ := planB_spec hB
  have full : ∀ (listed : Array Bool) (a : Act) (w : World) (V : Nat → Value),
      (∀ (k : Nat) (o : Oper) (c : GC), listed.getD k false = true → ops[k]? = some o → cs[k]? = some c → c.c.S (opn V ops.toList 0 a0 k o) (V k)) → a = puts V (fun k => listed.getD k false) ops.toList 0 a0 →
      (∃ p, p ≤ cs.length ∧ (∀ k g, cs[k]? = some g → g.c.mode = 3 → (listed.getD k false = true ↔ k < p)) ∧ Iat I0 cs p w) →
      (∀ (k : Nat) (o : Oper) (c : GC), listed.getD k false = true → ops[k]? = some o → cs[k]? = some c → (∀ (b : Nat) (cb : GC), k < b → cs[b]? = some cb → listed.getD b false = true → cb.c.mode ≠ 3) → c.c.K (opx ops V ops.toList 0 a0 k o) (V k) w) →
      (∀ (k : Nat) (o : Oper) (c : GC), listed.getD k false = true → ops[k]? = some o → cs[k]? = some c → c.c.mode = 5 → c.c.K (opx ops V ops.toList 0 a0 k o) (V k) w) →
      (∀ j, j < ops.size → listed.getD j false = true) → Q .normal a w := by
    intro listed a w V hV ha hb hK hPs hall
    have hI : Iat I0 cs cs.length w := by
      obtain ⟨p, hp, h1, h2⟩ := hb
      have := Iat_over I0 cs (cs.length - p) p (fun k g hpk _ hg hm => by
        have hk := (h1 k g hg hm).1 (hall k (by have := (List.getElem?_eq_some_iff.1 hg).1; omega))
        omega) (by omega)
      rw [show p + (cs.length - p) = cs.length by omega] at this
      rw [this]; exact h2
    have := (wpH_unroll (V := V) I0 ops.toList cs 0 [] [] a0 hw (fun k o c ho hk => by
      have ho' : ops[k]? = some o := by simpa using ho
      simpa using hV k o c (hall k (Array.getElem?_eq_some_iff.1 ho').1) ho' hk)).2 w hI
      (fun k o c hlt ho hk _ hnb => by
        have ho' : ops[k]? = some o := by simpa using ho
        have := hK k o c (hall k (by omega)) ho' hk (fun b cb h1 h2 h3 => hnb b cb h1 (List.getElem?_eq_some_iff.1 h2).1 h2)
        simpa using this) (fun _ => trivial) (fun k o c hlt ho hk _ hm => by
        have ho' : ops[k]? = some o := by simpa using ho
        have := hPs k o c (hall k (by omega)) ho' hk hm
        simpa using this) trivial
    rw [ha, puts_congr (V' := V) (D' := fun _ => true) ops.toList 0 a0 fun k _ h2 => ⟨hall k (by simpa using h2), fun _ => rfl⟩]
    exact this
  intro fuel
  induction fuel with
  | zero =>
    intro listed a w V hsz hV ha hb hK hPs hdown hcnt
    have hall := cnt_zero (Nat.le_zero.1 hcnt)
    refine ⟨?_, full listed a w V hV ha hb hK hPs hall⟩
    refine List.eq_nil_iff_forall_not_mem.2 fun j hj => ?_
    obtain ⟨h0, o, ho, _⟩ := mem_ready.1 hj
    have hlt : j < ops.size := (Array.getElem?_eq_some_iff.1 ho).1
    have := hall j hlt
    simp only [Array.getD_eq_getD_getElem?] at h0 this
    rw [Array.getElem?_eq_getElem (by omega)] at h0 this
    simp at h0 this
    rw [h0] at this; cases this
  | succ fuel ih =>
    intro listed a w V hsz hV ha hb hK hPs hdown hcnt
    have conv : ∀ j, j < ops.size → listed.getD j true = listed.getD j false := fun j hj => by
      simp only [Array.getD_eq_getD_getElem?]
      rw [Array.getElem?_eq_getElem (by omega)]; rfl
    refine ⟨fun hnil => ?_, fun i hi => ?_⟩
    · have hall : ∀ j, j < ops.size → listed.getD j false = true := by
        intro j
        induction j using Nat.strongRecOn with
        | ind j ihj =>
          intro hj
          cases hl : listed.getD j false with
          | true => rfl
          | false =>
            have : j ∈ Region.ready .any ops listed := mem_ready.2 ⟨by rw [conv j hj]; exact hl, ops[j], Array.getElem?_eq_getElem hj, fun e he hbd => by
              have hd : depB ops[j] e.on = true := by
                rw [depB_iff]
                obtain ⟨k, hk, rfl⟩ := Array.mem_iff_getElem.1 he
                exact ⟨k, hk, by simp [hbd]⟩
              have hlt := (hpl j ops[j] (Array.getElem?_eq_getElem hj)).1 _ hd
              exact ihj _ hlt (by omega)⟩
            rw [hnil] at this; cases this
      exact full listed a w V hV ha hb hK hPs hall
    · obtain ⟨h0, o, ho, hafter⟩ := mem_ready.1 hi
      have hlt : i < ops.size := (Array.getElem?_eq_some_iff.1 ho).1
      have h0' : listed.getD i false = false := by rw [← conv i hlt]; exact h0
      have hdeps : ∀ k, depB o k = true → listed.getD k false = true := fun k hk => by
        rw [depB_iff] at hk
        obtain ⟨q, hq, hk⟩ := hk
        simp only [Bool.and_eq_true, beq_iff_eq] at hk
        have := hafter o.after[q] (Array.getElem_mem hq) hk.2
        rw [hk.1] at this; exact this
      have hgo : ∀ j, (listed.setIfInBounds i true).getD j false = (j == i || listed.getD j false) := fun j => by
        by_cases hji : j = i
        · subst hji; simp [show j < listed.size by omega]
        · rw [getD_set_ne false (fun e => hji e.symm)]; simp [hji]
      obtain ⟨V1, hV1, hval0⟩ := extend (cs := cs.map (·.c)) (a0 := a0) hB V (fun k => listed.getD k false) hdown (fun k o c h1 h2 h3 => by
        rw [List.getElem?_map] at h3
        obtain ⟨g, hg, rfl⟩ := Option.map_eq_some_iff.1 h3
        exact hV k o g h1 h2 hg)
      have hval : validG V1 ops.toList cs 0 a0 := fun k o g h1 h2 => hval0 k o g.c h1 (by rw [List.getElem?_map, h2]; rfl)
      have hlook : ∀ t ∈ o.looksAt ops, (puts V1 (fun k => decide (k < 0 + i)) ops.toList 0 a0).tmps[t]? = a.tmps[t]? := fun t ht => by
        rw [ha]
        refine puts_look ops.toList 0 a0 a0 (fun k ok hk hd => ?_) rfl
        have hk' : ops[k]? = some ok := by simpa using hk
        simp only [Nat.zero_add]
        rcases ((hpl i o ho).2 k ok t hk' hd).1 ht with hdep | ⟨hik, hdep⟩
        · have h1 := (hpl i o ho).1 k hdep
          have h2 := hdeps k hdep
          exact ⟨by rw [h2]; simpa using h1, fun _ => hV1 k h2⟩
        · refine ⟨?_, fun hD => by simp at hD; omega⟩
          cases hl : listed.getD k false with
          | false => simp; omega
          | true => have := hdown k ok hk' hl i hdep; rw [h0'] at this; cases this
      obtain ⟨he, hwn⟩ := exec_look (ops := ops) (hsel i o · · ho) hlook
      have hoa : o.op.operands.toList.map (puts V1 (fun k => decide (k < 0 + i)) ops.toList 0 a0).eval = opn V ops.toList 0 a0 i o := opn_congr (V' := V) hB ho fun j hj => hV1 j (hdeps j hj)
      have hoax : oargs ops o (puts V1 (fun k => decide (k < 0 + i)) ops.toList 0 a0) = opx ops V ops.toList 0 a0 i o := opx_congr (V' := V) hB ho fun j hj => hV1 j (hdeps j hj)
      obtain ⟨c, ks', ps', g1, g2, g3, g6⟩ := (wpH_unroll (V := V1) I0 ops.toList cs 0 [] [] a0 hw hval).1 i o (by simpa using ho)
      have hi' : i < cs.length := (List.getElem?_eq_some_iff.1 g1).1
      have hks : c.c.mode ≠ 0 → c.c.mode ≠ 4 → c.c.mode ≠ 5 → depK o ks' w := fun hm0 hm4 hm5 => g3 w (fun k ok ck hki hok hck hd hnb => by
          have hok' : ops[k]? = some ok := by simpa using hok
          have hd' : depB o k = true := by simpa using hd
          have hDk := hdeps k hd'
          have := hK k ok ck hDk hok' hck (fun b cb hkb hcb hDb hm => by
            have hbl : b < cs.length := (List.getElem?_eq_some_iff.1 hcb).1
            have hob : ops[b]? = some ops[b] := Array.getElem?_eq_getElem (by omega)
            by_cases hbi : b < i
            · exact hnb b cb hkb hbi hcb hm
            · have hbne : i ≠ b := by rintro rfl; rw [h0'] at hDb; cases hDb
              rcases barH_spec hbar hob ho hcb g1 hm hm0 hm4 hm5 hbne with ⟨_, h⟩ | ⟨h, _⟩
              · have := reachB_down (D := fun k => listed.getD k false) hdown 6 b i h hDb
                rw [h0'] at this; cases this
              · omega)
          rw [opx_congr (V' := V) hB hok' fun j hj => hV1 j (hdown k ok hok' hDk j hj)]
          simpa [hV1 k hDk] using this) (fun _ => trivial)
      obtain ⟨p, hp, hp1, hp2⟩ := hb
      have hps : depK o ps' w := g6 w (fun k ok ck hki hok hck hd hm => by
          have hok' : ops[k]? = some ok := by simpa using hok
          have hd' : depB o k = true := by simpa using hd
          have hDk := hdeps k hd'
          have := hPs k ok ck hDk hok' hck hm
          rw [opx_congr (V' := V) hB hok' fun j hj => hV1 j (hdown k ok hok' hDk j hj)]
          simpa [hV1 k hDk] using this) trivial
      have hFw : c.c.mode = 4 ∨ c.c.mode = 5 → F w := fun hm45 => Iat_floatH hF0 cs p w (fun j g hjp hg hm => by
        have hl := (hp1 j g hg hm).2 hjp
        rcases hFs j g hg hm with h | h
        · exact h
        · have := reachB_down (D := fun k => listed.getD k false) hdown 6 j i (h i c g1 hm45) hl
          rw [h0'] at this; cases this) hp2
      /- ahead of an operation that asks the world those that turn memory are done just as far as the text -/
      have hbefore : c.c.mode ≠ 0 → c.c.mode ≠ 4 → c.c.mode ≠ 5 → ∀ k g, cs[k]? = some g → g.c.mode = 3 → (listed.getD k false = true ↔ k < i) := fun hm0 hm4 hm5 k g hg hm => by
        have hkl : k < cs.length := (List.getElem?_eq_some_iff.1 hg).1
        have hok : ops[k]? = some ops[k] := Array.getElem?_eq_getElem (by omega)
        constructor
        · intro hl
          rcases Nat.lt_or_ge k i with h | h
          · exact h
          · have hne : i ≠ k := by rintro rfl; rw [h0'] at hl; cases hl
            rcases barH_spec hbar hok ho hg g1 hm hm0 hm4 hm5 hne with ⟨_, h'⟩ | ⟨h', _⟩
            · have := reachB_down (D := fun k => listed.getD k false) hdown 6 k i h' hl
              rw [h0'] at this; cases this
            · omega
        · intro hki
          rcases barH_spec hbar hok ho hg g1 hm hm0 hm4 hm5 (by omega) with ⟨h', _⟩ | ⟨_, h'⟩
          · omega
          · unfold reachB at h'
            rw [ho] at h'
            simp only [Bool.or_eq_true] at h'
            rcases h' with h' | h'
            · exact hdeps k h'
            · obtain ⟨q, _, hq⟩ := List.any_eq_true.1 h'
              rw [Bool.and_eq_true] at hq
              exact reachB_down (D := fun k => listed.getD k false) hdown 5 q k hq.2 (hdeps q hq.1)
      have hIat : c.c.mode ≠ 0 → c.c.mode ≠ 4 → c.c.mode ≠ 5 → Iat I0 cs i w := fun hm0 hm4 hm5 => by
        have hb' := hbefore hm0 hm4 hm5
        rcases Nat.lt_or_ge p i with h | h
        · have := Iat_over I0 cs (i - p) p (fun k g h1 h2 hg hm => by
            have := (hp1 k g hg hm).1 ((hb' k g hg hm).2 (by omega)); omega) (by omega)
          rw [show p + (i - p) = i by omega] at this
          rw [this]; exact hp2
        · have := Iat_over I0 cs (p - i) i (fun k g h1 h2 hg hm => by
            have := (hb' k g hg hm).1 ((hp1 k g hg hm).2 (by omega)); omega) (by omega)
          rw [show i + (p - i) = p by omega] at this
          rw [← this]; exact hp2
      have next : ∀ u w', (c.c.mode ≠ 3 → Below w.heap.size w w') ∧ (c.c.mode = 3 → c.I w' ∧ T w w') ∧ (c.c.mode = 5 → ∀ x v w w', c.c.K x v w → T w w' → c.c.K x v w') ∧ c.c.S (opn V ops.toList 0 a0 i o) u ∧ c.c.K (opx ops V ops.toList 0 a0 i o) u w' → wpAny P .any ops Q fuel (listed.setIfInBounds i true) (a.put o.dst u) w' := by
          rintro u w' ⟨hbl, hbW, _, hSu, hKu⟩
          have opnU : ∀ k ok, ops[k]? = some ok → (k = i ∨ listed.getD k false = true) → opn (fun q => if q = i then u else V q) ops.toList 0 a0 k ok = opn V ops.toList 0 a0 k ok := fun k ok hok hk =>
            opn_congr hB hok fun j hj => by
              have : j ≠ i := by
                rintro rfl
                rcases hk with rfl | hk
                · have := (hpl k ok hok).1 k hj; omega
                · have := hdown k ok hok hk j hj
                  rw [h0'] at this; cases this
              simp [this]
          have opxU : ∀ k ok, ops[k]? = some ok → (k = i ∨ listed.getD k false = true) → opx ops (fun q => if q = i then u else V q) ops.toList 0 a0 k ok = opx ops V ops.toList 0 a0 k ok := fun k ok hok hk =>
            opx_congr hB hok fun j hj => by
              have : j ≠ i := by
                rintro rfl
                rcases hk with rfl | hk
                · have := (hpl k ok hok).1 k hj; omega
                · have := hdown k ok hok hk j hj
                  rw [h0'] at this; cases this
              simp [this]
          refine ih (listed.setIfInBounds i true) _ w' (fun k => if k = i then u else V k) (by simpa using hsz) (fun k ok c' hl hok hk => ?_) ?_ ?_ (fun k ok c' hl hok hk hnb => ?_) (fun k ok c' hl hok hk hm5 => ?_) (fun j oj hj hl k hd => ?_) ?_
          · rw [hgo] at hl
            by_cases hki : k = i
            · subst hki
              rw [hk] at g1; cases g1
              rw [hok] at ho; cases ho
              rw [opnU k _ hok (.inl rfl)]
              simpa using hSu
            · have hl : listed.getD k false = true := by simpa [hki] using hl
              rw [opnU k ok hok (.inr hl)]
              simpa [hki] using hV k ok c' hl hok hk
          · rw [ha, puts_put ops.toList 0 i a0 (by simpa using ho) (by simpa using h0') (fun k o' hk hne d hd => ?_)]
            · exact puts_congr ops.toList 0 a0 fun k _ _ => ⟨by simp only [Nat.zero_add]; exact (hgo k).symm, fun _ => by simp⟩
            · exact ((hpl k o' (by simpa using hk)).2 i o d ho hd).2 hne
          · by_cases hm3 : c.c.mode = 3
            · refine ⟨i + 1, by omega, fun k g hg hm => ?_, ?_⟩
              · rw [hgo]
                have := hbefore (by omega) (by omega) (by omega) k g hg hm
                by_cases hki : k = i
                · subst hki; simp
                · simp only [beq_iff_eq, hki, Bool.or_eq_true, false_or]
                  rw [this]; omega
              · rw [Iat_succ _ _ _ _ g1, invG_eq hm3]; exact (hbW hm3).1
            · refine ⟨p, hp, fun k g hg hm => ?_, Iat_kept hI0 cs p w w' hp2 (hbl hm3)⟩
              rw [hgo]
              by_cases hki : k = i
              · subst hki
                rw [hg] at g1; cases g1
                exact absurd hm hm3
              · simp only [beq_iff_eq, hki, Bool.or_eq_true, false_or]
                exact hp1 k g hg hm
          · by_cases hki : k = i
            · subst hki
              rw [hk] at g1; cases g1
              rw [hok] at ho; cases ho
              rw [opxU k _ hok (.inl rfl)]
              simpa using hKu
            · rw [hgo] at hl
              have hl : listed.getD k false = true := by simpa [hki] using hl
              rw [opxU k ok hok (.inr hl)]
              simp only [if_neg hki]
              by_cases hm0 : c'.c.mode = 0
              · exact c'.c.quiet hm0 _ _ _
              · by_cases hm4 : c'.c.mode = 4
                · obtain ⟨c4, ks4, ps4, q1, q2, _, _⟩ := (wpH_unroll (V := V1) I0 ops.toList cs 0 [] [] a0 hw hval).1 k ok (by simpa using hok)
                  rw [hk] at q1; cases q1
                  rcases q2 with ⟨_, _, _, q4, _, _, _⟩ | ⟨_, q0, _⟩
                  · exact (q4 hm4).1 _ _ _
                  · exact absurd q0 hm0
                · by_cases hm5 : c'.c.mode = 5
                  · have h1 := hPs k ok c' hl hok hk hm5
                    by_cases hm2 : c.c.mode = 3
                    · obtain ⟨c4, ks4, ps4, q1, q2, _, _⟩ := (wpH_unroll (V := V1) I0 ops.toList cs 0 [] [] a0 hw hval).1 k ok (by simpa using hok)
                      rw [hk] at q1; cases q1
                      rcases q2 with ⟨_, _, _, _, _, _, q5⟩ | ⟨_, q0, _⟩
                      · exact (q5 hm5).1 _ _ _ _ h1 (hbW hm2).2
                      · exact absurd q0 hm0
                    · exact c'.c.keeps _ _ _ _ h1 (hbl hm2)
                  by_cases hm2 : c.c.mode = 3
                  · exfalso
                    rcases barH_spec hbar ho hok g1 hk hm2 hm0 hm4 hm5 hki with ⟨h, _⟩ | ⟨_, h⟩
                    · exact hnb i c h g1 (by rw [hgo]; simp) hm2
                    · have := reachB_down (D := fun k => listed.getD k false) hdown 6 k i h hl
                      rw [h0'] at this; cases this
                  · exact c'.c.keeps _ _ _ _ (hK k ok c' hl hok hk fun b cb h1 h2 h3 => hnb b cb h1 h2 (by rw [hgo, h3]; simp)) (hbl hm2)
          · by_cases hki : k = i
            · subst hki
              rw [hk] at g1; cases g1
              rw [hok] at ho; cases ho
              rw [opxU k _ hok (.inl rfl)]
              simpa using hKu
            · rw [hgo] at hl
              have hl : listed.getD k false = true := by simpa [hki] using hl
              rw [opxU k ok hok (.inr hl)]
              simp only [if_neg hki]
              have h1 := hPs k ok c' hl hok hk hm5
              by_cases hm2 : c.c.mode = 3
              · obtain ⟨c4, ks4, ps4, q1, q2, _, _⟩ := (wpH_unroll (V := V1) I0 ops.toList cs 0 [] [] a0 hw hval).1 k ok (by simpa using hok)
                rw [hk] at q1; cases q1
                rcases q2 with ⟨_, _, _, _, _, _, q5⟩ | ⟨_, q0, _⟩
                · exact (q5 hm5).1 _ _ _ _ h1 (hbW hm2).2
                · omega
              · exact c'.c.keeps _ _ _ _ h1 (hbl hm2)
          · rw [hgo] at hl ⊢
            by_cases hji : j = i
            · subst hji
              rw [hj] at ho; cases ho
              rw [hdeps k hd]; simp
            · have : listed.getD j false = true := by simpa [hji] using hl
              rw [hdown j oj hj this k hd]; simp
          · have := cnt_set (f := fun k => listed.getD k false) (g := fun k => (listed.setIfInBounds i true).getD k false) (i := i) h0' (by simp only [hgo]; simp) (fun j hj => by simp only [hgo]; simp [hj]) hlt
            omega
      unfold wpOp
      simp only [ho]
      unfold stepH at g2
      rw [hoa, hoax] at g2
      rcases g2 with ⟨k1, km, k0, k4, k5, k3, k9⟩ | ⟨k1, k2, k3⟩
      · rw [← hwn, k1, if_pos rfl]
        rcases km with hm | hm | hm | hm | hm
        · refine .inl (uponC_op (T := fun u w' => (∃ n, w' = w.drewN n) ∧ c.c.S (opn V ops.toList 0 a0 i o) u) (fun u w' hT => ?_) ?_)
          · obtain ⟨⟨n, rfl⟩, hS⟩ := hT
            exact next u _ ⟨fun _ => below_drewN (Below.refl _ _) _, fun h => by omega, fun h => by omega, hS, c.c.quiet hm _ _ _⟩
          · rw [← he]; exact k0 hm w
        · refine .inl (uponC_op (T := fun u w' => Below w.heap.size w w' ∧ c.c.S (opn V ops.toList 0 a0 i o) u ∧ c.c.K (opx ops V ops.toList 0 a0 i o) u w') (fun u w' hT => next u w' ⟨fun _ => hT.1, fun h => by omega, fun h => by omega, hT.2⟩) ?_)
          rw [← he]; exact k5 hm w (hIat (by omega) (by omega) (by omega)) (hks (by omega) (by omega) (by omega)) hps
        · refine .inl (uponC_op (T := fun u w' => (c.I w' ∧ T w w') ∧ c.c.S (opn V ops.toList 0 a0 i o) u ∧ c.c.K (opx ops V ops.toList 0 a0 i o) u w') (fun u w' hT => next u w' ⟨fun h => absurd hm h, fun _ => hT.1, fun h => by omega, hT.2⟩) ?_)
          rw [← he]; exact k3 hm w (hIat (by omega) (by omega) (by omega)) (hks (by omega) (by omega) (by omega)) hps
        · refine .inl (uponC_op (T := fun u w' => Below w.heap.size w w' ∧ c.c.S (opn V ops.toList 0 a0 i o) u) (fun u w' hT => next u w' ⟨fun _ => hT.1, fun h => by omega, fun h => by omega, hT.2, (k4 hm).1 _ _ _⟩) ?_)
          rw [← he]; exact (k4 hm).2 w (hFw (.inl hm))
        · refine .inl (uponC_op (T := fun u w' => Below w.heap.size w w' ∧ c.c.S (opn V ops.toList 0 a0 i o) u ∧ c.c.K (opx ops V ops.toList 0 a0 i o) u w') (fun u w' hT => next u w' ⟨fun _ => hT.1, fun h => by omega, fun _ => (k9 hm).1, hT.2⟩) ?_)
          rw [← he]; exact (k9 hm).2 w (hFw (.inr hm)) hps
      · rw [← hwn, k1, if_neg (by simp)]
        exact next undef w ⟨fun _ => Below.refl _ _, fun h => by omega, fun h => by omega, k3, c.c.quiet k2 _ _ _⟩
/-- An operation that waits for all that ask what always holds. -/
def lateB (ops : Array Oper) (ms : List Nat) (j : Nat) : Bool := (List.range ops.size).all fun i => !(ms[i]? == some 4 || ms[i]? == some 5) || reachB ops 6 j i
/-- What always holds follows from each operation that turns memory and is not late. -/
def allH (ops : Array Oper) (ms : List Nat) (F : World → Prop) : Nat → List GC → Prop
  | _, [] => True
  | j, g :: cs => ((g.c.mode = 3 ∧ lateB ops ms j = false) → ∀ w, g.I w → F w) ∧ allH ops ms F (j + 1) cs
theorem allH_at {ops : Array Oper} {ms : List Nat} {F : World → Prop} : ∀ {cs : List GC} {n : Nat}, allH ops ms F n cs → ∀ (j : Nat) (g : GC), cs[j]? = some g → g.c.mode = 3 → lateB ops ms (n + j) = false → ∀ w, g.I w → F w
  | [], _, _, j, g, hg, _, _, _, _ => by simp at hg
  | g' :: cs, n, h, 0, g, hg, hm, hl, w, hw => by
    simp only [List.getElem?_cons_zero, Option.some.injEq] at hg
    subst hg
    exact h.1 ⟨hm, hl⟩ w hw
  | g' :: cs, n, h, j + 1, g, hg, hm, hl, w, hw => allH_at h.2 j g (by simpa using hg) hm (by rw [show n + 1 + j = n + (j + 1) by omega]; exact hl) w hw
/-- ONE WALK OF THE ORDER OF THE TEXT SERVES EVERY ORDER. -/
theorem wp_region_planH {id : Nat} {a : Act} {W : World} {l : List Oper} {cs : List GC} (I0 : World → Prop) (hI0 : ∀ w w', I0 w → Below w.heap.size w w' → I0 w') (hW : I0 W) (hF0 : ∀ w, I0 w → F w)
    (hw : wpH P l.toArray Q F T I0 l cs 0 [] [] a) (hFs : allH l.toArray (cs.map (·.c.mode)) F 0 cs) (hpr1 : P.follows .mixedOrders = true) (hpr2 : planB l.toArray = true) (hpr3 : barH l.toArray (cs.map (·.c.mode)) = true) (hlen : cs.length = l.length) : (Code.region id l.toArray true).wp P Q a W := by
  have hsz : l.toArray.size = l.length := by simp
  refine wp_region_any hpr1 ?_
  refine wpAny_planH (cs := cs) (a0 := a) I0 hI0 hF0 (fun j g hg hm => ?_) hpr2 hpr3 (by omega) (by simpa using hw) _ _ _ _ (fun _ => undef) (by simp) ?_ ?_ ?_ ?_ ?_ ?_ ?_
  · cases hl : lateB l.toArray (cs.map (·.c.mode)) j with
    | false => exact .inl (allH_at hFs j g hg hm (by rw [Nat.zero_add]; exact hl))
    | true =>
      refine .inr fun i gi hgi hmi => ?_
      have hlt : i < l.toArray.size := by have := (List.getElem?_eq_some_iff.1 hgi).1; omega
      have := List.all_eq_true.1 hl i (List.mem_range.2 hlt)
      simp only [List.getElem?_map, hgi, Option.map_some, Bool.or_eq_true, Bool.not_eq_true', Bool.or_eq_false_iff, beq_eq_false_iff_ne, ne_eq, Option.some.injEq] at this
      rcases this with h | h
      · rcases hmi with hmi | hmi
        · exact absurd hmi h.1
        · exact absurd hmi h.2
      · exact h
  · intro k o c hl
    exfalso
    simp only [Array.getD_eq_getD_getElem?] at hl
    by_cases hk : k < l.length <;> simp [hk] at hl
  · refine (puts_none _ _ _ fun k _ => ?_).symm
    simp only [Array.getD_eq_getD_getElem?]
    by_cases hk : k < l.length <;> simp [hk]
  · refine ⟨0, Nat.zero_le _, fun k g _ _ => ?_, ?_⟩
    · simp only [Array.getD_eq_getD_getElem?]
      by_cases hk : k < l.length <;> simp [hk]
    · rw [Iat_zero]; exact hI0 W _ hW ((Below.refl _ _).drew)
  · intro k o c hl
    exfalso
    simp only [Array.getD_eq_getD_getElem?] at hl
    by_cases hk : k < l.length <;> simp [hk] at hl
  · intro k o c hl
    exfalso
    simp only [Array.getD_eq_getD_getElem?] at hl
    by_cases hk : k < l.length <;> simp [hk] at hl
  · intro j o _ hl
    exfalso
    simp only [Array.getD_eq_getD_getElem?] at hl
    by_cases hk : j < l.length <;> simp [hk] at hl
  · have : ∀ (f : Nat → Bool) (n : Nat), cnt f n ≤ n := by
      intro f n
      induction n with
      | zero => exact Nat.le_refl _
      | succ n ih => simp only [cnt]; split <;> omega
    exact this _ _
end
end Go.Proofs.Ythdmamcbceblpaa
