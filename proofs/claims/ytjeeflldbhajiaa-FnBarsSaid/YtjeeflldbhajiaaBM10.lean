/-
  As XPlanG; besides: what an operation makes may outlive an operation that turns memory (mode 5: it asks only what always holds, and what is told of it stays true under T, the effect of what turns memory). No condition; nothing of the program is named here.
  Plans of operations that turn memory, of which the last ones need not keep what floating loads ask: they wait for these. No condition; nothing of the program is named here.
  What the statements draw: a bar of small dyadic numbers. No condition but what each contract says.
  Which numbers and which stuffs are the same (the program's and the reference's), each function proved once. No condition but what each contract says.
  Which stuffs are the same (the program's and the reference's), each proved once; the law. No condition but what each contract says.
  Which lists of numbers are the same: the reference's way. No condition but what each contract says.
-/
import Derived.Test.YtjeeflldbhajiaaBM5
import Derived.Test.YtjeeflldbhajiaaBM4
import Derived.Test.YtjeeflldbhajiaaBM7
import Derived.Test.YtjeeflldbhajiaaBM9
import Derived.Test.YtjeeflldbhajiaaBM2
import Derived.Test.YtjeeflldbhajiaaBM1
set_option linter.unusedSimpArgs false
set_option linter.unusedVariables false
set_option linter.unusedSectionVars false
namespace Go.Proofs.Ytjeeflldbhajiaa
open Go Go.RowKit
section
variable {P : Program} {ops : Array Oper} {Q : Exit → Act → World → Prop} {F : World → Prop} {T : World → World → Prop}
def nextH (c : Clm) (i : Nat) (k : World → Prop) (ks : List (Nat × (World → Prop))) : List (Nat × (World → Prop)) := match c.mode with | 5 => ks | _ => nextG c i k ks
def nextP (c : Clm) (i : Nat) (k : World → Prop) (ps : List (Nat × (World → Prop))) : List (Nat × (World → Prop)) := match c.mode with | 5 => (i, k) :: ps | _ => ps
def stepH (P : Program) (ops : Array Oper) (F : World → Prop) (T : World → World → Prop) (I : World → Prop) (o : Oper) (g : GC) (ks ps : List (Nat × (World → Prop))) (a : Act) : Prop :=
  (Region.wanted o (yielded ops a.tmps) = true ∧ (g.c.mode = 0 ∨ g.c.mode = 1 ∨ g.c.mode = 3 ∨ g.c.mode = 4 ∨ g.c.mode = 5) ∧
    (g.c.mode = 0 → ∀ w, uponC P (fun u w' => (∃ n, w' = w.drewN n) ∧ g.c.S (o.op.operands.toList.map a.eval) u) ((execOp a.eval o).run P w)) ∧
    (g.c.mode = 4 → (∀ x v w, g.c.K x v w) ∧ ∀ w, F w → uponC P (fun u w' => Below w.heap.size w w' ∧ g.c.S (o.op.operands.toList.map a.eval) u) ((execOp a.eval o).run P w)) ∧
    (g.c.mode = 1 → ∀ w, I w → depK o ks w → depK o ps w → uponC P (fun u w' => Below w.heap.size w w' ∧ g.c.S (o.op.operands.toList.map a.eval) u ∧ g.c.K (oargs ops o a) u w') ((execOp a.eval o).run P w)) ∧
    (g.c.mode = 3 → ∀ w, I w → depK o ks w → depK o ps w → uponC P (fun u w' => (g.I w' ∧ T w w') ∧ g.c.S (o.op.operands.toList.map a.eval) u ∧ g.c.K (oargs ops o a) u w') ((execOp a.eval o).run P w)) ∧
    (g.c.mode = 5 → (∀ x v w w', g.c.K x v w → T w w' → g.c.K x v w') ∧ ∀ w, F w → depK o ps w → uponC P (fun u w' => Below w.heap.size w w' ∧ g.c.S (o.op.operands.toList.map a.eval) u ∧ g.c.K (oargs ops o a) u w') ((execOp a.eval o).run P w))) ∨
  (Region.wanted o (yielded ops a.tmps) = false ∧ g.c.mode = 0 ∧ g.c.S (o.op.operands.toList.map a.eval) undef)
/-- The walk in the order of the text. -/
def wpH (P : Program) (ops : Array Oper) (Q : Exit → Act → World → Prop) (F : World → Prop) (T : World → World → Prop) : (World → Prop) → List Oper → List GC → Nat → List (Nat × (World → Prop)) → List (Nat × (World → Prop)) → Act → Prop
  | I, [], [], _, ks, ps, a => ∀ w, I w → allK ks w → allK ps w → Q .normal a w
  | I, o :: l, g :: cs, i, ks, ps, a => stepH P ops F T I o g ks ps a ∧ ∀ v, g.c.S (o.op.operands.toList.map a.eval) v → wpH P ops Q F T (invG I g) l cs (i + 1) (nextH g.c i (g.c.K (oargs ops o a) v) ks) (nextP g.c i (g.c.K (oargs ops o a) v) ps) (a.put o.dst v)
  | _, _, _, _, _, _, _ => False
theorem Iat_floatH {I F : World → Prop} (hI : ∀ w, I w → F w) : ∀ (cs : List GC) (p : Nat) (w : World), (∀ j g, j < p → cs[j]? = some g → g.c.mode = 3 → ∀ w, g.I w → F w) → Iat I cs p w → F w
  | cs, 0, w, _, h => by rw [Iat_zero] at h; exact hI w h
  | [], j + 1, w, _, h => hI w h
  | g :: cs, j + 1, w, hg, h => by
    refine Iat_floatH (I := invG I g) (fun w h => ?_) cs j w (fun k g' hk hg' => hg (k + 1) g' (by omega) (by simpa using hg')) h
    by_cases hm : g.c.mode = 3
    · rw [invG_eq hm] at h; exact hg 0 g (by omega) (by simp) hm w h
    · rw [invG_ne hm] at h; exact hI w h
/-- The claims that outlive what turns memory. -/
def standsP (ops : Array Oper) (V : Nat → Value) (l : List Oper) (cs : List GC) (i : Nat) (a : Act) (w : World) (n : Nat) (X : Nat → Prop) : Prop :=
  ∀ (k : Nat) (o : Oper) (c : GC), k < n → l[k]? = some o → cs[k]? = some c → X (i + k) → c.c.mode = 5 → c.c.K (opx ops V l i a k o) (V (i + k)) w
theorem standsP_tail {V : Nat → Value} {o : Oper} {l : List Oper} {c : GC} {cs : List GC} {i : Nat} {a : Act} {w : World} {n : Nat} {X : Nat → Prop} (h : standsP ops V (o :: l) (c :: cs) i a w (n + 1) X) : standsP ops V l cs (i + 1) (a.put o.dst (V i)) w n X := by
  intro k o' c' hk ho hc hX hm
  have := h (k + 1) o' c' (by omega) (by simpa using ho) (by simpa using hc) (by simpa [Nat.add_assoc, Nat.add_comm 1 k] using hX) hm
  rw [opx_succ] at this
  simpa [Nat.add_assoc, Nat.add_comm 1 k] using this
theorem nextH_dep {o : Oper} {c : Clm} {i : Nat} {k : World → Prop} {ks : List (Nat × (World → Prop))} {w : World} (h1 : depB o i = true → k w) (h2 : c.mode ≠ 3 → depK o ks w) : depK o (nextH c i k ks) w := by
  unfold nextH
  split
  · exact h2 (by omega)
  · exact nextG_dep h1 h2
theorem nextH_all {c : Clm} {i : Nat} {k : World → Prop} {ks : List (Nat × (World → Prop))} {w : World} (h1 : k w) (h2 : c.mode ≠ 3 → allK ks w) : allK (nextH c i k ks) w := by
  unfold nextH
  split
  · exact h2 (by omega)
  · exact nextG_all h1 h2
theorem nextP_dep {o : Oper} {c : Clm} {i : Nat} {k : World → Prop} {ps : List (Nat × (World → Prop))} {w : World} (h1 : c.mode = 5 → depB o i = true → k w) (h2 : depK o ps w) : depK o (nextP c i k ps) w := by
  unfold nextP
  split
  · rename_i hm
    refine ⟨?_, h2⟩
    cases hd : depB o i with
    | false => trivial
    | true => exact h1 hm hd
  · exact h2
theorem nextP_all {c : Clm} {i : Nat} {k : World → Prop} {ps : List (Nat × (World → Prop))} {w : World} (h1 : c.mode = 5 → k w) (h2 : allK ps w) : allK (nextP c i k ps) w := by
  unfold nextP
  split
  · rename_i hm
    exact ⟨h1 hm, h2⟩
  · exact h2
/-- What the walk in the order of the text has told of each operation. -/
theorem wpH_unroll {V : Nat → Value} : ∀ (I : World → Prop) (l : List Oper) (cs : List GC) (i : Nat) (ks ps : List (Nat × (World → Prop))) (a : Act), wpH P ops Q F T I l cs i ks ps a → validG V l cs i a →
    (∀ j o, l[j]? = some o → ∃ c ks' ps', cs[j]? = some c ∧ stepH P ops F T (Iat I cs j) o c ks' ps' (puts V (fun k => decide (k < i + j)) l i a) ∧ (∀ w, standsG ops V l cs i a w j (fun k => depB o k = true) → (noBarG cs j → depK o ks w) → depK o ks' w) ∧ ∀ w, standsP ops V l cs i a w j (fun k => depB o k = true) → depK o ps w → depK o ps' w) ∧
    (∀ w, Iat I cs cs.length w → standsG ops V l cs i a w cs.length (fun _ => True) → (noBarG cs cs.length → allK ks w) → standsP ops V l cs i a w cs.length (fun _ => True) → allK ps w → Q .normal (puts V (fun _ => true) l i a) w)
  | I, [], [], i, ks, ps, a, h, hV => ⟨fun j o hj => by simp at hj, fun w hb _ hk _ hp => h w hb (hk fun b cb h1 => by simp at h1) hp⟩
  | I, [], c :: cs, i, ks, ps, a, h, hV => (by unfold wpH at h; exact h.elim)
  | I, o :: l, [], i, ks, ps, a, h, hV => (by unfold wpH at h; exact h.elim)
  | I, o :: l, c :: cs, i, ks, ps, a, h, hV => by
    simp only [wpH] at h
    obtain ⟨h1, h2⟩ := h
    have hS := hV 0 o c (by simp) (by simp)
    rw [opn_zero] at hS
    have ih := wpH_unroll (invG I c) l cs (i + 1) _ _ (a.put o.dst (V i)) (h2 _ hS) (fun k o' c' ho hk => by
      have := hV (k + 1) o' c' (by simpa using ho) (by simpa using hk)
      rw [opn_succ] at this
      simpa [Nat.add_assoc, Nat.add_comm 1 k] using this)
    have bars : ∀ n, noBarG cs n → ∀ (b : Nat) (cb : GC), 0 < b → b < n + 1 → (c :: cs)[b]? = some cb → cb.c.mode ≠ 3 := fun n hn b cb h1 h2 h3 => by
      obtain ⟨b, rfl⟩ : ∃ b', b = b' + 1 := ⟨b - 1, by omega⟩
      exact hn b cb (by omega) (by simpa using h3)
    have bars' : ∀ n, noBarG cs n → c.c.mode ≠ 3 → noBarG (c :: cs) (n + 1) := fun n hn hc b cb h2 h3 => by
      cases b with
      | zero => simp at h3; subst h3; exact hc
      | succ b => exact hn b cb (by omega) (by simpa using h3)
    refine ⟨fun j o' hj => ?_, fun w hb hk hks hkp hps => ?_⟩
    · cases j with
      | zero =>
        simp only [List.getElem?_cons_zero, Option.some.injEq] at hj
        subst hj
        refine ⟨c, ks, ps, by simp, ?_, fun w _ hk => hk fun b cb h1 => by omega, fun w _ hk => hk⟩
        rw [puts_none (o :: l) i a fun k hk => by simpa using hk]
        exact h1
      | succ j =>
        simp only [List.getElem?_cons_succ] at hj
        have e : i + (j + 1) = i + 1 + j := by omega
        have ep : puts V (fun k => decide (k < i + (j + 1))) (o :: l) i a = puts V (fun k => decide (k < i + 1 + j)) l (i + 1) (a.put o.dst (V i)) := by
          simp only [puts, e, show i < i + 1 + j by omega, decide_true, if_true]
        obtain ⟨c', ks', ps', g1, g2, g3, g4⟩ := ih.1 j o' hj
        refine ⟨c', ks', ps', by simpa using g1, by rw [ep]; exact g2, fun w hw hk => g3 w (standsG_tail hw) fun hn => ?_, fun w hw hk => g4 w (standsP_tail hw) ?_⟩
        rotate_left
        · refine nextP_dep (fun hm hd => ?_) hk
          have := hw 0 o c (by omega) (by simp) (by simp) (by simpa using hd) hm
          rw [opx_zero] at this
          exact this
        refine nextH_dep (fun hd => ?_) fun hc => hk (bars' _ hn hc)
        have := hw 0 o c (by omega) (by simp) (by simp) (by simpa using hd) (bars _ hn)
        rw [opx_zero] at this
        exact this
    · simp only [puts, if_true]
      refine ih.2 w hb (standsG_tail hk) (fun hn => ?_) (standsP_tail hkp) ?_
      rotate_left
      · refine nextP_all (fun hm => ?_) hps
        have := hkp 0 o c (by simp) (by simp) (by simp) trivial hm
        rw [opx_zero] at this
        exact this
      refine nextH_all ?_ fun hc => hks (bars' _ hn hc)
      have := hk 0 o c (by simp) (by simp) (by simp) trivial (bars _ hn)
      rw [opx_zero] at this
      exact this
/-- What turns memory stands apart from all that asks the world. -/
def barH (ops : Array Oper) (ms : List Nat) : Bool := (List.range ops.size).all fun i => !(ms[i]? == some 3) || (List.range ops.size).all fun j => j == i || (ms[j]? == some 0) || (ms[j]? == some 4) || (ms[j]? == some 5) ||
  (decide (j < i) && reachB ops 6 i j) || (decide (i < j) && reachB ops 6 j i)
theorem barH_spec {cs : List GC} (h : barH ops (cs.map (·.c.mode)) = true) {i j : Nat} {oi oj : Oper} {ci cj : GC} (hi : ops[i]? = some oi) (hj : ops[j]? = some oj) (hci : cs[i]? = some ci) (hcj : cs[j]? = some cj) (h2 : ci.c.mode = 3) (h0 : cj.c.mode ≠ 0) (h4 : cj.c.mode ≠ 4) (h5 : cj.c.mode ≠ 5) (hne : j ≠ i) :
    (j < i ∧ reachB ops 6 i j = true) ∨ (i < j ∧ reachB ops 6 j i = true) := by
  have hlti : i < ops.size := (Array.getElem?_eq_some_iff.1 hi).1
  have hltj : j < ops.size := (Array.getElem?_eq_some_iff.1 hj).1
  have := List.all_eq_true.1 h i (List.mem_range.2 hlti)
  simp only [List.getElem?_map, hci, Option.map_some, h2, BEq.rfl, Bool.not_true, Bool.false_or] at this
  have := List.all_eq_true.1 this j (List.mem_range.2 hltj)
  simp only [hi, hj, hcj, Option.map_some, Option.getD_some, Bool.or_eq_true, Bool.and_eq_true, decide_eq_true_eq, beq_iff_eq, Option.some.injEq] at this
  rcases this with ((((h | h) | h) | h) | h) | h
  · exact absurd h hne
  · exact absurd h h0
  · exact absurd h h4
  · exact absurd h h5
  · exact .inl h
  · exact .inr h
variable {cs : List GC} {a0 : Act}
theorem wpAny_planH (I0 : World → Prop) (hI0 : ∀ w w', I0 w → Below w.heap.size w w' → I0 w') (hF0 : ∀ w, I0 w → F w) (hFs : ∀ j g, cs[j]? = some g → g.c.mode = 3 → (∀ w, g.I w → F w) ∨ ∀ (i : Nat) (gi : GC), cs[i]? = some gi → gi.c.mode = 4 ∨ gi.c.mode = 5 → reachB ops 6 j i = true)
    (hB : planB ops = true) (hbar : barH ops (cs.map (·.c.mode)) = true) (hlen : cs.length = ops.size) (hw : wpH P ops Q F T I0 ops.toList cs 0 [] [] a0) :
    ∀ (fuel : Nat) (listed : Array Bool) (a : Act) (w : World) (V : Nat → Value), listed.size = ops.size →
      (∀ (k : Nat) (o : Oper) (c : GC), listed.getD k false = true → ops[k]? = some o → cs[k]? = some c → c.c.S (opn V ops.toList 0 a0 k o) (V k)) →
      a = puts V (fun k => listed.getD k false) ops.toList 0 a0 →
      (∃ p, p ≤ cs.length ∧ (∀ k g, cs[k]? = some g → g.c.mode = 3 → (listed.getD k false = true ↔ k < p)) ∧ Iat I0 cs p w) →
      (∀ (k : Nat) (o : Oper) (c : GC), listed.getD k false = true → ops[k]? = some o → cs[k]? = some c → (∀ (b : Nat) (cb : GC), k < b → cs[b]? = some cb → listed.getD b false = true → cb.c.mode ≠ 3) → c.c.K (opx ops V ops.toList 0 a0 k o) (V k) w) →
      (∀ (k : Nat) (o : Oper) (c : GC), listed.getD k false = true → ops[k]? = some o → cs[k]? = some c → c.c.mode = 5 → c.c.K (opx ops V ops.toList 0 a0 k o) (V k) w) →
      (∀ j o, ops[j]? = some o → listed.getD j false = true → ∀ k, depB o k = true → listed.getD k false = true) →
      cnt (fun k => listed.getD k false) ops.size ≤ fuel → wpAny P .any ops Q fuel listed a w := by
  obtain ⟨hsel, hpl⟩ := planB_spec hB
  have full : ∀ (listed : Array Bool) (a : Act) (w : World) (V : Nat → Value),
      (∀ (k : Nat) (o : Oper) (c : GC), listed.getD k false = true → ops[k]? = some o → cs[k]? = some c → c.c.S (opn V ops.toList 0 a0 k o) (V k)) → a = puts V (fun k => listed.getD k false) ops.toList 0 a0 →
      (∃ p, p ≤ cs.length ∧ (∀ k g, cs[k]? = some g → g.c.mode = 3 → (listed.getD k false = true ↔ k < p)) ∧ Iat I0 cs p w) →
      (∀ (k : Nat) (o : Oper) (c : GC), listed.getD k false = true → ops[k]? = some o → cs[k]? = some c → (∀ (b : Nat) (cb : GC), k < b → cs[b]? = some cb → listed.getD b false = true → cb.c.mode ≠ 3) → c.c.K (opx ops V ops.toList 0 a0 k o) (V k) w) →
      (∀ (k : Nat) (o : Oper) (c : GC), listed.getD k false = true → ops[k]? = some o → cs[k]? = some c → c.c.mode = 5 → c.c.K (opx ops V ops.toList 0 a0 k o) (V k) w) →
      (∀ j, j < ops.size → listed.getD j false = true) → Q .normal a w := by
    intro listed a w V hV ha hb hK hPs hall
    have hI : Iat I0 cs cs.length w := by
      obtain ⟨p, hp, h1, h2⟩ := hb
      have := Iat_over I0 cs (cs.length - p) p (fun k g hpk _ hg hm => by
        have hk := (h1 k g hg hm).1 (hall k (by have := (List.getElem?_eq_some_iff.1 hg).1; omega))
        omega) (by omega)
      rw [show p + (cs.length - p) = cs.length by omega] at this
      rw [this]; exact h2
    have := (wpH_unroll (V := V) I0 ops.toList cs 0 [] [] a0 hw (fun k o c ho hk => by
      have ho' : ops[k]? = some o := by simpa using ho
      simpa using hV k o c (hall k (Array.getElem?_eq_some_iff.1 ho').1) ho' hk)).2 w hI
      (fun k o c hlt ho hk _ hnb => by
        have ho' : ops[k]? = some o := by simpa using ho
        have := hK k o c (hall k (by omega)) ho' hk (fun b cb h1 h2 h3 => hnb b cb h1 (List.getElem?_eq_some_iff.1 h2).1 h2)
        simpa using this) (fun _ => trivial) (fun k o c hlt ho hk _ hm => by
        have ho' : ops[k]? = some o := by simpa using ho
        have := hPs k o c (hall k (by omega)) ho' hk hm
        simpa using this) trivial
    rw [ha, puts_congr (V' := V) (D' := fun _ => true) ops.toList 0 a0 fun k _ h2 => ⟨hall k (by simpa using h2), fun _ => rfl⟩]
    exact this
  intro fuel
  induction fuel with
  | zero =>
    intro listed a w V hsz hV ha hb hK hPs hdown hcnt
    have hall := cnt_zero (Nat.le_zero.1 hcnt)
    refine ⟨?_, full listed a w V hV ha hb hK hPs hall⟩
    refine List.eq_nil_iff_forall_not_mem.2 fun j hj => ?_
    obtain ⟨h0, o, ho, _⟩ := mem_ready.1 hj
    have hlt : j < ops.size := (Array.getElem?_eq_some_iff.1 ho).1
    have := hall j hlt
    simp only [Array.getD_eq_getD_getElem?] at h0 this
    rw [Array.getElem?_eq_getElem (by omega)] at h0 this
    simp at h0 this
    rw [h0] at this; cases this
  | succ fuel ih =>
    intro listed a w V hsz hV ha hb hK hPs hdown hcnt
    have conv : ∀ j, j < ops.size → listed.getD j true = listed.getD j false := fun j hj => by
      simp only [Array.getD_eq_getD_getElem?]
      rw [Array.getElem?_eq_getElem (by omega)]; rfl
    refine ⟨fun hnil => ?_, fun i hi => ?_⟩
    · have hall : ∀ j, j < ops.size → listed.getD j false = true := by
        intro j
        induction j using Nat.strongRecOn with
        | ind j ihj =>
          intro hj
          cases hl : listed.getD j false with
          | true => rfl
          | false =>
            have : j ∈ Region.ready .any ops listed := mem_ready.2 ⟨by rw [conv j hj]; exact hl, ops[j], Array.getElem?_eq_getElem hj, fun e he hbd => by
              have hd : depB ops[j] e.on = true := by
                rw [depB_iff]
                obtain ⟨k, hk, rfl⟩ := Array.mem_iff_getElem.1 he
                exact ⟨k, hk, by simp [hbd]⟩
              have hlt := (hpl j ops[j] (Array.getElem?_eq_getElem hj)).1 _ hd
              exact ihj _ hlt (by omega)⟩
            rw [hnil] at this; cases this
      exact full listed a w V hV ha hb hK hPs hall
    · obtain ⟨h0, o, ho, hafter⟩ := mem_ready.1 hi
      have hlt : i < ops.size := (Array.getElem?_eq_some_iff.1 ho).1
      have h0' : listed.getD i false = false := by rw [← conv i hlt]; exact h0
      have hdeps : ∀ k, depB o k = true → listed.getD k false = true := fun k hk => by
        rw [depB_iff] at hk
        obtain ⟨q, hq, hk⟩ := hk
        simp only [Bool.and_eq_true, beq_iff_eq] at hk
        have := hafter o.after[q] (Array.getElem_mem hq) hk.2
        rw [hk.1] at this; exact this
      have hgo : ∀ j, (listed.setIfInBounds i true).getD j false = (j == i || listed.getD j false) := fun j => by
        by_cases hji : j = i
        · subst hji; simp [show j < listed.size by omega]
        · rw [getD_set_ne false (fun e => hji e.symm)]; simp [hji]
      obtain ⟨V1, hV1, hval0⟩ := extend (cs := cs.map (·.c)) (a0 := a0) hB V (fun k => listed.getD k false) hdown (fun k o c h1 h2 h3 => by
        rw [List.getElem?_map] at h3
        obtain ⟨g, hg, rfl⟩ := Option.map_eq_some_iff.1 h3
        exact hV k o g h1 h2 hg)
      have hval : validG V1 ops.toList cs 0 a0 := fun k o g h1 h2 => hval0 k o g.c h1 (by rw [List.getElem?_map, h2]; rfl)
      have hlook : ∀ t ∈ o.looksAt ops, (puts V1 (fun k => decide (k < 0 + i)) ops.toList 0 a0).tmps[t]? = a.tmps[t]? := fun t ht => by
        rw [ha]
        refine puts_look ops.toList 0 a0 a0 (fun k ok hk hd => ?_) rfl
        have hk' : ops[k]? = some ok := by simpa using hk
        simp only [Nat.zero_add]
        rcases ((hpl i o ho).2 k ok t hk' hd).1 ht with hdep | ⟨hik, hdep⟩
        · have h1 := (hpl i o ho).1 k hdep
          have h2 := hdeps k hdep
          exact ⟨by rw [h2]; simpa using h1, fun _ => hV1 k h2⟩
        · refine ⟨?_, fun hD => by simp at hD; omega⟩
          cases hl : listed.getD k false with
          | false => simp; omega
          | true => have := hdown k ok hk' hl i hdep; rw [h0'] at this; cases this
      obtain ⟨he, hwn⟩ := exec_look (ops := ops) (hsel i o · · ho) hlook
      have hoa : o.op.operands.toList.map (puts V1 (fun k => decide (k < 0 + i)) ops.toList 0 a0).eval = opn V ops.toList 0 a0 i o := opn_congr (V' := V) hB ho fun j hj => hV1 j (hdeps j hj)
      have hoax : oargs ops o (puts V1 (fun k => decide (k < 0 + i)) ops.toList 0 a0) = opx ops V ops.toList 0 a0 i o := opx_congr (V' := V) hB ho fun j hj => hV1 j (hdeps j hj)
      obtain ⟨c, ks', ps', g1, g2, g3, g6⟩ := (wpH_unroll (V := V1) I0 ops.toList cs 0 [] [] a0 hw hval).1 i o (by simpa using ho)
      have hi' : i < cs.length := (List.getElem?_eq_some_iff.1 g1).1
      have hks : c.c.mode ≠ 0 → c.c.mode ≠ 4 → c.c.mode ≠ 5 → depK o ks' w := fun hm0 hm4 hm5 => g3 w (fun k ok ck hki hok hck hd hnb => by
          have hok' : ops[k]? = some ok := by simpa using hok
          have hd' : depB o k = true := by simpa using hd
          have hDk := hdeps k hd'
          have := hK k ok ck hDk hok' hck (fun b cb hkb hcb hDb hm => by
            have hbl : b < cs.length := (List.getElem?_eq_some_iff.1 hcb).1
            have hob : ops[b]? = some ops[b] := Array.getElem?_eq_getElem (by omega)
            by_cases hbi : b < i
            · exact hnb b cb hkb hbi hcb hm
            · have hbne : i ≠ b := by rintro rfl; rw [h0'] at hDb; cases hDb
              rcases barH_spec hbar hob ho hcb g1 hm hm0 hm4 hm5 hbne with ⟨_, h⟩ | ⟨h, _⟩
              · have := reachB_down (D := fun k => listed.getD k false) hdown 6 b i h hDb
                rw [h0'] at this; cases this
              · omega)
          rw [opx_congr (V' := V) hB hok' fun j hj => hV1 j (hdown k ok hok' hDk j hj)]
          simpa [hV1 k hDk] using this) (fun _ => trivial)
      obtain ⟨p, hp, hp1, hp2⟩ := hb
      have hps : depK o ps' w := g6 w (fun k ok ck hki hok hck hd hm => by
          have hok' : ops[k]? = some ok := by simpa using hok
          have hd' : depB o k = true := by simpa using hd
          have hDk := hdeps k hd'
          have := hPs k ok ck hDk hok' hck hm
          rw [opx_congr (V' := V) hB hok' fun j hj => hV1 j (hdown k ok hok' hDk j hj)]
          simpa [hV1 k hDk] using this) trivial
      have hFw : c.c.mode = 4 ∨ c.c.mode = 5 → F w := fun hm45 => Iat_floatH hF0 cs p w (fun j g hjp hg hm => by
        have hl := (hp1 j g hg hm).2 hjp
        rcases hFs j g hg hm with h | h
        · exact h
        · have := reachB_down (D := fun k => listed.getD k false) hdown 6 j i (h i c g1 hm45) hl
          rw [h0'] at this; cases this) hp2
      /- ahead of an operation that asks the world those that turn memory are done just as far as the text -/
      have hbefore : c.c.mode ≠ 0 → c.c.mode ≠ 4 → c.c.mode ≠ 5 → ∀ k g, cs[k]? = some g → g.c.mode = 3 → (listed.getD k false = true ↔ k < i) := fun hm0 hm4 hm5 k g hg hm => by
        have hkl : k < cs.length := (List.getElem?_eq_some_iff.1 hg).1
        have hok : ops[k]? = some ops[k] := Array.getElem?_eq_getElem (by omega)
        constructor
        · intro hl
          rcases Nat.lt_or_ge k i with h | h
          · exact h
          · have hne : i ≠ k := by rintro rfl; rw [h0'] at hl; cases hl
            rcases barH_spec hbar hok ho hg g1 hm hm0 hm4 hm5 hne with ⟨_, h'⟩ | ⟨h', _⟩
            · have := reachB_down (D := fun k => listed.getD k false) hdown 6 k i h' hl
              rw [h0'] at this; cases this
            · omega
        · intro hki
          rcases barH_spec hbar hok ho hg g1 hm hm0 hm4 hm5 (by omega) with ⟨h', _⟩ | ⟨_, h'⟩
          · omega
          · unfold reachB at h'
            rw [ho] at h'
            simp only [Bool.or_eq_true] at h'
            rcases h' with h' | h'
            · exact hdeps k h'
            · obtain ⟨q, _, hq⟩ := List.any_eq_true.1 h'
              rw [Bool.and_eq_true] at hq
              exact reachB_down (D := fun k => listed.getD k false) hdown 5 q k hq.2 (hdeps q hq.1)
      have hIat : c.c.mode ≠ 0 → c.c.mode ≠ 4 → c.c.mode ≠ 5 → Iat I0 cs i w := fun hm0 hm4 hm5 => by
        have hb' := hbefore hm0 hm4 hm5
        rcases Nat.lt_or_ge p i with h | h
        · have := Iat_over I0 cs (i - p) p (fun k g h1 h2 hg hm => by
            have := (hp1 k g hg hm).1 ((hb' k g hg hm).2 (by omega)); omega) (by omega)
          rw [show p + (i - p) = i by omega] at this
          rw [this]; exact hp2
        · have := Iat_over I0 cs (p - i) i (fun k g h1 h2 hg hm => by
            have := (hb' k g hg hm).1 ((hp1 k g hg hm).2 (by omega)); omega) (by omega)
          rw [show i + (p - i) = p by omega] at this
          rw [← this]; exact hp2
      have next : ∀ u w', (c.c.mode ≠ 3 → Below w.heap.size w w') ∧ (c.c.mode = 3 → c.I w' ∧ T w w') ∧ (c.c.mode = 5 → ∀ x v w w', c.c.K x v w → T w w' → c.c.K x v w') ∧ c.c.S (opn V ops.toList 0 a0 i o) u ∧ c.c.K (opx ops V ops.toList 0 a0 i o) u w' → wpAny P .any ops Q fuel (listed.setIfInBounds i true) (a.put o.dst u) w' := by
          rintro u w' ⟨hbl, hbW, _, hSu, hKu⟩
          have opnU : ∀ k ok, ops[k]? = some ok → (k = i ∨ listed.getD k false = true) → opn (fun q => if q = i then u else V q) ops.toList 0 a0 k ok = opn V ops.toList 0 a0 k ok := fun k ok hok hk =>
            opn_congr hB hok fun j hj => by
              have : j ≠ i := by
                rintro rfl
                rcases hk with rfl | hk
                · have := (hpl k ok hok).1 k hj; omega
                · have := hdown k ok hok hk j hj
                  rw [h0'] at this; cases this
              simp [this]
          have opxU : ∀ k ok, ops[k]? = some ok → (k = i ∨ listed.getD k false = true) → opx ops (fun q => if q = i then u else V q) ops.toList 0 a0 k ok = opx ops V ops.toList 0 a0 k ok := fun k ok hok hk =>
            opx_congr hB hok fun j hj => by
              have : j ≠ i := by
                rintro rfl
                rcases hk with rfl | hk
                · have := (hpl k ok hok).1 k hj; omega
                · have := hdown k ok hok hk j hj
                  rw [h0'] at this; cases this
              simp [this]
          refine ih (listed.setIfInBounds i true) _ w' (fun k => if k = i then u else V k) (by simpa using hsz) (fun k ok c' hl hok hk => ?_) ?_ ?_ (fun k ok c' hl hok hk hnb => ?_) (fun k ok c' hl hok hk hm5 => ?_) (fun j oj hj hl k hd => ?_) ?_
          · rw [hgo] at hl
            by_cases hki : k = i
            · subst hki
              rw [hk] at g1; cases g1
              rw [hok] at ho; cases ho
              rw [opnU k _ hok (.inl rfl)]
              simpa using hSu
            · have hl : listed.getD k false = true := by simpa [hki] using hl
              rw [opnU k ok hok (.inr hl)]
              simpa [hki] using hV k ok c' hl hok hk
          · rw [ha, puts_put ops.toList 0 i a0 (by simpa using ho) (by simpa using h0') (fun k o' hk hne d hd => ?_)]
            · exact puts_congr ops.toList 0 a0 fun k _ _ => ⟨by simp only [Nat.zero_add]; exact (hgo k).symm, fun _ => by simp⟩
            · exact ((hpl k o' (by simpa using hk)).2 i o d ho hd).2 hne
          · by_cases hm3 : c.c.mode = 3
            · refine ⟨i + 1, by omega, fun k g hg hm => ?_, ?_⟩
              · rw [hgo]
                have := hbefore (by omega) (by omega) (by omega) k g hg hm
                by_cases hki : k = i
                · subst hki; simp
                · simp only [beq_iff_eq, hki, Bool.or_eq_true, false_or]
                  rw [this]; omega
              · rw [Iat_succ _ _ _ _ g1, invG_eq hm3]; exact (hbW hm3).1
            · refine ⟨p, hp, fun k g hg hm => ?_, Iat_kept hI0 cs p w w' hp2 (hbl hm3)⟩
              rw [hgo]
              by_cases hki : k = i
              · subst hki
                rw [hg] at g1; cases g1
                exact absurd hm hm3
              · simp only [beq_iff_eq, hki, Bool.or_eq_true, false_or]
                exact hp1 k g hg hm
          · by_cases hki : k = i
            · subst hki
              rw [hk] at g1; cases g1
              rw [hok] at ho; cases ho
              rw [opxU k _ hok (.inl rfl)]
              simpa using hKu
            · rw [hgo] at hl
              have hl : listed.getD k false = true := by simpa [hki] using hl
              rw [opxU k ok hok (.inr hl)]
              simp only [if_neg hki]
              by_cases hm0 : c'.c.mode = 0
              · exact c'.c.quiet hm0 _ _ _
              · by_cases hm4 : c'.c.mode = 4
                · obtain ⟨c4, ks4, ps4, q1, q2, _, _⟩ := (wpH_unroll (V := V1) I0 ops.toList cs 0 [] [] a0 hw hval).1 k ok (by simpa using hok)
                  rw [hk] at q1; cases q1
                  rcases q2 with ⟨_, _, _, q4, _, _, _⟩ | ⟨_, q0, _⟩
                  · exact (q4 hm4).1 _ _ _
                  · exact absurd q0 hm0
                · by_cases hm5 : c'.c.mode = 5
                  · have h1 := hPs k ok c' hl hok hk hm5
                    by_cases hm2 : c.c.mode = 3
                    · obtain ⟨c4, ks4, ps4, q1, q2, _, _⟩ := (wpH_unroll (V := V1) I0 ops.toList cs 0 [] [] a0 hw hval).1 k ok (by simpa using hok)
                      rw [hk] at q1; cases q1
                      rcases q2 with ⟨_, _, _, _, _, _, q5⟩ | ⟨_, q0, _⟩
                      · exact (q5 hm5).1 _ _ _ _ h1 (hbW hm2).2
                      · exact absurd q0 hm0
                    · exact c'.c.keeps _ _ _ _ h1 (hbl hm2)
                  by_cases hm2 : c.c.mode = 3
                  · exfalso
                    rcases barH_spec hbar ho hok g1 hk hm2 hm0 hm4 hm5 hki with ⟨h, _⟩ | ⟨_, h⟩
                    · exact hnb i c h g1 (by rw [hgo]; simp) hm2
                    · have := reachB_down (D := fun k => listed.getD k false) hdown 6 k i h hl
                      rw [h0'] at this; cases this
                  · exact c'.c.keeps _ _ _ _ (hK k ok c' hl hok hk fun b cb h1 h2 h3 => hnb b cb h1 h2 (by rw [hgo, h3]; simp)) (hbl hm2)
          · by_cases hki : k = i
            · subst hki
              rw [hk] at g1; cases g1
              rw [hok] at ho; cases ho
              rw [opxU k _ hok (.inl rfl)]
              simpa using hKu
            · rw [hgo] at hl
              have hl : listed.getD k false = true := by simpa [hki] using hl
              rw [opxU k ok hok (.inr hl)]
              simp only [if_neg hki]
              have h1 := hPs k ok c' hl hok hk hm5
              by_cases hm2 : c.c.mode = 3
              · obtain ⟨c4, ks4, ps4, q1, q2, _, _⟩ := (wpH_unroll (V := V1) I0 ops.toList cs 0 [] [] a0 hw hval).1 k ok (by simpa using hok)
                rw [hk] at q1; cases q1
                rcases q2 with ⟨_, _, _, _, _, _, q5⟩ | ⟨_, q0, _⟩
                · exact (q5 hm5).1 _ _ _ _ h1 (hbW hm2).2
                · omega
              · exact c'.c.keeps _ _ _ _ h1 (hbl hm2)
          · rw [hgo] at hl ⊢
            by_cases hji : j = i
            · subst hji
              rw [hj] at ho; cases ho
              rw [hdeps k hd]; simp
            · have : listed.getD j false = true := by simpa [hji] using hl
              rw [hdown j oj hj this k hd]; simp
          · have := cnt_set (f := fun k => listed.getD k false) (g := fun k => (listed.setIfInBounds i true).getD k false) (i := i) h0' (by simp only [hgo]; simp) (fun j hj => by simp only [hgo]; simp [hj]) hlt
            omega
      unfold wpOp
      simp only [ho]
      unfold stepH at g2
      rw [hoa, hoax] at g2
      rcases g2 with ⟨k1, km, k0, k4, k5, k3, k9⟩ | ⟨k1, k2, k3⟩
      · rw [← hwn, k1, if_pos rfl]
        rcases km with hm | hm | hm | hm | hm
        · refine .inl (uponC_op (T := fun u w' => (∃ n, w' = w.drewN n) ∧ c.c.S (opn V ops.toList 0 a0 i o) u) (fun u w' hT => ?_) ?_)
          · obtain ⟨⟨n, rfl⟩, hS⟩ := hT
            exact next u _ ⟨fun _ => below_drewN (Below.refl _ _) _, fun h => by omega, fun h => by omega, hS, c.c.quiet hm _ _ _⟩
          · rw [← he]; exact k0 hm w
        · refine .inl (uponC_op (T := fun u w' => Below w.heap.size w w' ∧ c.c.S (opn V ops.toList 0 a0 i o) u ∧ c.c.K (opx ops V ops.toList 0 a0 i o) u w') (fun u w' hT => next u w' ⟨fun _ => hT.1, fun h => by omega, fun h => by omega, hT.2⟩) ?_)
          rw [← he]; exact k5 hm w (hIat (by omega) (by omega) (by omega)) (hks (by omega) (by omega) (by omega)) hps
        · refine .inl (uponC_op (T := fun u w' => (c.I w' ∧ T w w') ∧ c.c.S (opn V ops.toList 0 a0 i o) u ∧ c.c.K (opx ops V ops.toList 0 a0 i o) u w') (fun u w' hT => next u w' ⟨fun h => absurd hm h, fun _ => hT.1, fun h => by omega, hT.2⟩) ?_)
          rw [← he]; exact k3 hm w (hIat (by omega) (by omega) (by omega)) (hks (by omega) (by omega) (by omega)) hps
        · refine .inl (uponC_op (T := fun u w' => Below w.heap.size w w' ∧ c.c.S (opn V ops.toList 0 a0 i o) u) (fun u w' hT => next u w' ⟨fun _ => hT.1, fun h => by omega, fun h => by omega, hT.2, (k4 hm).1 _ _ _⟩) ?_)
          rw [← he]; exact (k4 hm).2 w (hFw (.inl hm))
        · refine .inl (uponC_op (T := fun u w' => Below w.heap.size w w' ∧ c.c.S (opn V ops.toList 0 a0 i o) u ∧ c.c.K (opx ops V ops.toList 0 a0 i o) u w') (fun u w' hT => next u w' ⟨fun _ => hT.1, fun h => by omega, fun _ => (k9 hm).1, hT.2⟩) ?_)
          rw [← he]; exact (k9 hm).2 w (hFw (.inr hm)) hps
      · rw [← hwn, k1, if_neg (by simp)]
        exact next undef w ⟨fun _ => Below.refl _ _, fun h => by omega, fun h => by omega, k3, c.c.quiet k2 _ _ _⟩
/-- An operation that waits for all that ask what always holds. -/
def lateB (ops : Array Oper) (ms : List Nat) (j : Nat) : Bool := (List.range ops.size).all fun i => !(ms[i]? == some 4 || ms[i]? == some 5) || reachB ops 6 j i
/-- What always holds follows from each operation that turns memory and is not late. -/
def allH (ops : Array Oper) (ms : List Nat) (F : World → Prop) : Nat → List GC → Prop
  | _, [] => True
  | j, g :: cs => ((g.c.mode = 3 ∧ lateB ops ms j = false) → ∀ w, g.I w → F w) ∧ allH ops ms F (j + 1) cs
theorem allH_at {ops : Array Oper} {ms : List Nat} {F : World → Prop} : ∀ {cs : List GC} {n : Nat}, allH ops ms F n cs → ∀ (j : Nat) (g : GC), cs[j]? = some g → g.c.mode = 3 → lateB ops ms (n + j) = false → ∀ w, g.I w → F w
  | [], _, _, j, g, hg, _, _, _, _ => by simp at hg
  | g' :: cs, n, h, 0, g, hg, hm, hl, w, hw => by
    simp only [List.getElem?_cons_zero, Option.some.injEq] at hg
    subst hg
    exact h.1 ⟨hm, hl⟩ w hw
  | g' :: cs, n, h, j + 1, g, hg, hm, hl, w, hw => allH_at h.2 j g (by simpa using hg) hm (by rw [show n + 1 + j = n + (j + 1) by omega]; exact hl) w hw
/-- ONE WALK OF THE ORDER OF THE TEXT SERVES EVERY ORDER. -/
theorem wp_region_planH {id : Nat} {a : Act} {W : World} {l : List Oper} {cs : List GC} (I0 : World → Prop) (hI0 : ∀ w w', I0 w → Below w.heap.size w w' → I0 w') (hW : I0 W) (hF0 : ∀ w, I0 w → F w)
    (hw : wpH P l.toArray Q F T I0 l cs 0 [] [] a) (hFs : allH l.toArray (cs.map (·.c.mode)) F 0 cs) (hpr1 : P.follows .mixedOrders = true) (hpr2 : planB l.toArray = true) (hpr3 : barH l.toArray (cs.map (·.c.mode)) = true) (hlen : cs.length = l.length) : (Code.region id l.toArray true).wp P Q a W := by
  have hsz : l.toArray.size = l.length := by simp
  refine wp_region_any hpr1 ?_
  refine wpAny_planH (cs := cs) (a0 := a) I0 hI0 hF0 (fun j g hg hm => ?_) hpr2 hpr3 (by omega) (by simpa using hw) _ _ _ _ (fun _ => undef) (by simp) ?_ ?_ ?_ ?_ ?_ ?_ ?_
  · cases hl : lateB l.toArray (cs.map (·.c.mode)) j with
    | false => exact .inl (allH_at hFs j g hg hm (by rw [Nat.zero_add]; exact hl))
    | true =>
      refine .inr fun i gi hgi hmi => ?_
      have hlt : i < l.toArray.size := by have := (List.getElem?_eq_some_iff.1 hgi).1; omega
      have := List.all_eq_true.1 hl i (List.mem_range.2 hlt)
      simp only [List.getElem?_map, hgi, Option.map_some, Bool.or_eq_true, Bool.not_eq_true', Bool.or_eq_false_iff, beq_eq_false_iff_ne, ne_eq, Option.some.injEq] at this
      rcases this with h | h
      · rcases hmi with hmi | hmi
        · exact absurd hmi h.1
        · exact absurd hmi h.2
      · exact h
  · intro k o c hl
    exfalso
    simp only [Array.getD_eq_getD_getElem?] at hl
    by_cases hk : k < l.length <;> simp [hk] at hl
  · refine (puts_none _ _ _ fun k _ => ?_).symm
    simp only [Array.getD_eq_getD_getElem?]
    by_cases hk : k < l.length <;> simp [hk]
  · refine ⟨0, Nat.zero_le _, fun k g _ _ => ?_, ?_⟩
    · simp only [Array.getD_eq_getD_getElem?]
      by_cases hk : k < l.length <;> simp [hk]
    · rw [Iat_zero]; exact hI0 W _ hW ((Below.refl _ _).drew)
  · intro k o c hl
    exfalso
    simp only [Array.getD_eq_getD_getElem?] at hl
    by_cases hk : k < l.length <;> simp [hk] at hl
  · intro k o c hl
    exfalso
    simp only [Array.getD_eq_getD_getElem?] at hl
    by_cases hk : k < l.length <;> simp [hk] at hl
  · intro j o _ hl
    exfalso
    simp only [Array.getD_eq_getD_getElem?] at hl
    by_cases hk : j < l.length <;> simp [hk] at hl
  · have : ∀ (f : Nat → Bool) (n : Nat), cnt f n ≤ n := by
      intro f n
      induction n with
      | zero => exact Nat.le_refl _
      | succ n ih => simp only [cnt]; split <;> omega
    exact this _ _
end
end Go.Proofs.Ytjeeflldbhajiaa
set_option linter.unusedSimpArgs false
set_option linter.unusedVariables false
set_option linter.unusedSectionVars false
namespace Go.Proofs.Ytjeeflldbhajiaa
open Go Go.RowKit
section
variable {P : Program} {ops : Array Oper} {Q : Exit → Act → World → Prop} {F : World → Prop}
theorem uponC_weak {P : Program} {T T' : Value → World → Prop} {r : Result Next} (hT : ∀ u w, T u w → T' u w) (h : uponC P T r) : uponC P T' r := by
  unfold uponC at h ⊢
  split at h
  · exact hT _ _ h
  · exact hT _ _ h
  · refine Calls.mono h ?_
    rintro e w' ⟨v, he, hv⟩
    exact ⟨v, he, hT _ _ hv⟩
  · exact h.elim
theorem stepG_mode {I : World → Prop} {o : Oper} {g : GC} {ks : List (Nat × (World → Prop))} {a : Act} (h : stepG P ops F I o g ks a) : g.c.mode ≠ 5 := by
  rcases h with ⟨_, h, _⟩ | ⟨_, h, _⟩ <;> omega
theorem stepH_of {I : World → Prop} {o : Oper} {g : GC} {ks : List (Nat × (World → Prop))} {a : Act} (h : stepG P ops F I o g ks a) : stepH P ops F (fun _ _ => True) I o g ks [] a := by
  have hm := stepG_mode h
  rcases h with ⟨h1, h2, h3, h4, h5, h6⟩ | h
  · refine .inl ⟨h1, by omega, h3, h4, fun e w hi hk _ => h5 e w hi hk, fun e w hi hk _ => ?_, fun e => absurd e hm⟩
    exact uponC_weak (fun u w' hT => ⟨⟨hT.1, trivial⟩, hT.2⟩) (h6 e w hi hk)
  · exact .inr h
theorem wpH_of : ∀ (I : World → Prop) (l : List Oper) (cs : List GC) (i : Nat) (ks : List (Nat × (World → Prop))) (a : Act), wpG P ops Q F I l cs i ks a → wpH P ops Q F (fun _ _ => True) I l cs i ks [] a
  | I, [], [], i, ks, a, h => (by unfold wpG at h; unfold wpH; exact fun w hi hk _ => h w hi hk)
  | I, [], c :: cs, i, ks, a, h => (by unfold wpG at h; exact h.elim)
  | I, o :: l, [], i, ks, a, h => (by unfold wpG at h; exact h.elim)
  | I, o :: l, g :: cs, i, ks, a, h => by
    unfold wpG at h
    unfold wpH
    have hm := stepG_mode h.1
    refine ⟨stepH_of h.1, fun v hv => ?_⟩
    have e2 : nextH g.c i (g.c.K (oargs ops o a) v) ks = nextG g.c i (g.c.K (oargs ops o a) v) ks := by
      unfold nextH
      split
      · exact absurd (by assumption) hm
      · rfl
    have e3 : nextP g.c i (g.c.K (oargs ops o a) v) ([] : List (Nat × (World → Prop))) = [] := by
      unfold nextP
      split
      · exact absurd (by assumption) hm
      · rfl
    rw [e2, e3]
    exact wpH_of _ l cs _ _ _ (h.2 v hv)
theorem wp_region_planL {id : Nat} {a : Act} {W : World} {l : List Oper} {cs : List GC} (I0 : World → Prop) (hI0 : ∀ w w', I0 w → Below w.heap.size w w' → I0 w') (hW : I0 W) (hF0 : ∀ w, I0 w → F w)
    (hw : wpG P l.toArray Q F I0 l cs 0 [] a) (hFs : allH l.toArray (cs.map (·.c.mode)) F 0 cs) (hpr1 : P.follows .mixedOrders = true) (hpr2 : planB l.toArray = true) (hpr3 : barH l.toArray (cs.map (·.c.mode)) = true) (hlen : cs.length = l.length) : (Code.region id l.toArray true).wp P Q a W :=
  wp_region_planH I0 hI0 hW hF0 (wpH_of _ _ _ _ _ _ hw) hFs hpr1 hpr2 hpr3 hlen
end
end Go.Proofs.Ytjeeflldbhajiaa
set_option linter.unusedSimpArgs false
set_option linter.unusedVariables false
set_option linter.unusedSectionVars false
namespace Go.Proofs.Ytjeeflldbhajiaa
open Go Go.RowKit
open Go.ChangeShapes Go.WideShapes Go.ChangeAt Go.RowKit Go.Joins
/-- A drawn bar: step, heats. -/
structure DB (q : Nat) (xs : List Nat) : Prop where
  st : ∃ e : Int, (1 ≤ e ∧ e ≤ 8) ∧ V .f32 (cn .f32 q) ((e : Rat) / 4)
  lt : q < 4294967296 ∧ ∀ j, xs.getD j 0 < 4294967296
  len : 1 ≤ xs.length ∧ xs.length ≤ 7
  xs : ∀ j, j < xs.length → ∃ h : Int, (-32 ≤ h ∧ h ≤ 32) ∧ V .f32 (cn .f32 (xs.getD j 0)) ((h : Rat) / 4)
theorem DB.hb {q : Nat} {xs : List Nat} (h : DB q xs) : HB xs 8 := fun j hj => by
  obtain ⟨m, hm, e⟩ := h.xs j hj
  have b1 : (m : Rat) ≤ ((32 : Int) : Rat) := icast_le hm.2
  have b2 : ((-32 : Int) : Rat) ≤ (m : Rat) := icast_le hm.1
  have e32 : ((32 : Int) : Rat) = 32 := rfl
  have e32' : ((-32 : Int) : Rat) = -32 := rfl
  have e' : V .f32 (hX xs j) ((m : Rat) / 4) := e
  exact ⟨e'.1, by rw [e'.2]; grind, by rw [e'.2]; grind⟩
/-- .. of which the first heats are drawn. -/
def DH (xs : List Nat) : Prop := ∀ j, j < xs.length → (xs.getD j 0 < 4294967296) ∧ ∃ h : Int, (-32 ≤ h ∧ h ≤ 32) ∧ V .f32 (cn .f32 (xs.getD j 0)) ((h : Rat) / 4)
theorem DH.add {xs : List Nat} (h : DH xs) {r : Nat} {m : Int} (hm : -32 ≤ m ∧ m ≤ 32) (hr : cn .f32 r = fop .quo .f32 (cn .f32 (floatOfInt .f32 m)) (cn .f32 1082130432)) : DH (xs ++ [r]) := by
  intro j hj
  rw [List.getD_eq_getElem?_getD]
  by_cases e : j < xs.length
  · rw [List.getElem?_append_left e, ← List.getD_eq_getElem?_getD]; exact h j e
  · have ej : j = xs.length := by simp at hj; omega
    subst ej
    rw [List.getElem?_append_right (Nat.le_refl _), Nat.sub_self]
    have v := quarter_val (n := m) (by omega)
    exact ⟨raw_lt hr v.1 (fop_lt _ _ _), m, hm, by show V _ (cn .f32 r) _; rw [hr]; exact v⟩
theorem DH.wf {xs : List Nat} (h : DH xs) : ∀ j, xs.getD j 0 < 4294967296 := fun j => by
  by_cases e : j < xs.length
  · exact (h j e).1
  · rw [List.getD_eq_getElem?_getD, List.getElem?_eq_none (by omega)]; decide
theorem turn_grown {s : Nat} {a c : World} (h : Turn s (s + 1) a c) : a.grownBy c (some s) := ⟨h.os, h.tape, h.output, h.size, fun k hk hne => h.block k hk (by
  rcases Nat.lt_trichotomy k s with h1 | h1 | h1
  · exact .inl h1
  · exact absurd (by rw [h1]) hne
  · exact .inr h1)⟩
/-- What a draw of a bar has turned: the source; the bar stands in its variable. -/
def DBI (B sb K : Nat) (W : World) (b : Nat) (cs : List Value) (u : World) : Prop := SrcAt u sb K ∧ Turn sb (sb + 1) W u ∧ owned u b cs ∧ (B ≤ b ∧ b < u.heap.size)
theorem DBI.later {B sb K : Nat} {W : World} {b : Nat} {cs : List Value} {u u' : World} (h : DBI B sb K W b cs u) (hb : Below u.heap.size u u') : DBI B sb K W b cs u' :=
  ⟨h.1.later hb h.1.lt, h.2.1.trans (Turn.below hb), h.2.2.1.later hb, h.2.2.2.1, Nat.lt_of_lt_of_le h.2.2.2.2 hb.size⟩
theorem DBI.drawn {B sb K L : Nat} {W : World} {b : Nat} {cs : List Value} {u u' : World} (h : DBI B sb K W b cs u) (hs : sb < B) (hg : Turn sb (sb + 1) u u') (hk : SrcAt u' sb L) : DBI B sb L W b cs u' :=
  ⟨hk, h.2.1.trans hg, owned_kept h.2.2.1 (turn_grown hg) h.2.2.2.2 (fun k hk => by cases hk; have := h.2.2.2.1; omega), h.2.2.2.1, Nat.lt_of_lt_of_le h.2.2.2.2 hg.size⟩
theorem SrcAt.grown {u u' : World} {sb K : Nat} {g : Option Nat} (h : SrcAt u sb K) (hg : u.grownBy u' g) (hne : ∀ k, g = some k → sb < k) : SrcAt u' sb K := by
  have hlt := h.lt
  obtain ⟨p, n, c, kk, s, ⟨a0, a1, a2⟩, ⟨f1, f2⟩, hby, hr⟩ := h
  have bl : ∀ k, k ≤ sb → u'.heap[k]? = u.heap[k]? := fun k hk => hg.block k (by omega) (fun e => by have := hne k e.symm; omega)
  refine ⟨p, n, c, kk, s, ⟨(World.cell?_of_block (bl sb (Nat.le_refl _))).trans a0, (World.cell?_of_block (bl sb (Nat.le_refl _))).trans a1, (World.cell?_of_block (bl sb (Nat.le_refl _))).trans a2⟩, ⟨(World.frozen?_of_block (bl sb (Nat.le_refl _))).trans f1, (World.frozen?_of_block (bl sb (Nat.le_refl _))).trans f2⟩, ⟨hby.1, fun i hi => ?_⟩, hr⟩
  obtain ⟨b', o', x, e1, e2, e3, e4⟩ := hby.2 i hi
  exact ⟨b', o', x, e1, e2, (World.cell?_of_block (bl b' (by omega))).trans e3, e4⟩
theorem DBI.grown {B sb K : Nat} {W : World} {b : Nat} {cs : List Value} {u u' : World} {g : Option Nat} (h : DBI B sb K W b cs u) (hs : sb < B) (hW : W.heap.size ≤ B) (hg : u.grownBy u' g) (hne : ∀ k, g = some k → k ≠ b ∧ B ≤ k) : DBI B sb K W b cs u' :=
  ⟨h.1.grown hg (fun k hk => by have := (hne k hk).2; omega), ⟨hg.os.trans h.2.1.os, hg.tape.trans h.2.1.tape, hg.output.trans h.2.1.output, Nat.le_trans h.2.1.size hg.size, fun k hk hr => (hg.block k (Nat.lt_of_lt_of_le hk h.2.1.size) (fun e => by have := (hne k e.symm).2; omega)).trans (h.2.1.block k hk hr)⟩,
    owned_kept h.2.2.1 hg h.2.2.2.2 (fun k hk => (hne k hk).1), h.2.2.2.1, Nat.lt_of_lt_of_le h.2.2.2.2 hg.size⟩
/-- The bar's heats are stored. -/
theorem DBI.put {B sb K : Nat} {W : World} {b : Nat} {s : St} {q : Nat} {v v2 : Value} {u : World} (h : DBI B sb K W b (barC s q v) u) (hs : sb < B) (hW : W.heap.size ≤ B) : DBI B sb K W b (barC s q v2) (u.setCell ⟨b, 7, none⟩ v2) := by
  have hg : u.grownBy (u.setCell ⟨b, 7, none⟩ v2) (some b) := ⟨rfl, rfl, rfl, by simp, fun k _ hk => Below.heap_setCell _ _ _ _ (fun e => hk (by rw [e]))⟩
  have hB := h.2.2.2.1
  refine ⟨h.1.grown hg (fun k hk => by cases hk; omega), ⟨hg.os.trans h.2.1.os, hg.tape.trans h.2.1.tape, hg.output.trans h.2.1.output, Nat.le_trans h.2.1.size hg.size, fun k hk hr => (hg.block k (Nat.lt_of_lt_of_le hk h.2.1.size) (fun e => by cases e; omega)).trans (h.2.1.block k hk hr)⟩, ?_, hB, Nat.lt_of_lt_of_le h.2.2.2.2 hg.size⟩
  have o := h.2.2.1
  obtain ⟨a0, z0⟩ := o 0 _ rfl
  obtain ⟨a1, z1⟩ := o 1 _ rfl
  obtain ⟨a2, z2⟩ := o 2 _ rfl
  obtain ⟨a3, z3⟩ := o 3 _ rfl
  obtain ⟨a4, z4⟩ := o 4 _ rfl
  obtain ⟨a5, z5⟩ := o 5 _ rfl
  obtain ⟨a6, z6⟩ := o 6 _ rfl
  obtain ⟨a7, z7⟩ := o 7 _ rfl
  intro k x hx
  match k, hx with
  | 0, hx => obtain rfl : _ = x := by simpa [barC] using hx
             exact ⟨by go_simp, by go_simp⟩
  | 1, hx => obtain rfl : _ = x := by simpa [barC] using hx
             exact ⟨by go_simp, by go_simp⟩
  | 2, hx => obtain rfl : _ = x := by simpa [barC] using hx
             exact ⟨by go_simp, by go_simp⟩
  | 3, hx => obtain rfl : _ = x := by simpa [barC] using hx
             exact ⟨by go_simp, by go_simp⟩
  | 4, hx => obtain rfl : _ = x := by simpa [barC] using hx
             exact ⟨by go_simp, by go_simp⟩
  | 5, hx => obtain rfl : _ = x := by simpa [barC] using hx
             exact ⟨by go_simp, by go_simp⟩
  | 6, hx => obtain rfl : _ = x := by simpa [barC] using hx
             exact ⟨by go_simp, by go_simp⟩
  | 7, hx => obtain rfl : _ = x := by simpa [barC] using hx
             exact ⟨by go_simp, by go_simp⟩
  | k + 8, hx => simp [barC] at hx
section
variable {ops : Array Oper} {Q : Exit → Act → World → Prop} {F : World → Prop}
variable {l : List Oper} {cs : List GC} {i : Nat} {ks : List (Nat × (World → Prop))} {a : Act} {o : Oper}
theorem wpG_pickI {I I' : World → Prop} {b K : Nat} {n : Int} (hI' : ∀ w w', I' w → Below w.heap.size w w' → I' w') (hn : 1 ≤ n ∧ n ≤ 1000000000) (hK : K ≤ 900000) (hw : Region.wanted o (yielded ops a.tmps) = true) (he : ∀ w, (execOp a.eval o).run Try.prog w = .ok (.enter 114 #[.pointer (some ⟨b, 0, none⟩), .int .i64 n]) w)
    (hs : ∀ w, I w → SrcAt w b K) (hd : ∀ w w', I w → Turn b (b + 1) w w' → SrcAt w' b (K + 2) → I' w')
    (h : ∀ r, 0 ≤ r → r ≤ n - 1 → wpG Try.prog ops Q F I' l cs (i + 1) [(i, fun _ => True)] (a.put o.dst (.int .i64 r))) : wpG Try.prog ops Q F I (o :: l) (⟨Clm.pick (n - 1), I', hI'⟩ :: cs) i ks a := by
  refine wpG_turnC (Clm.pick (n - 1)) rfl _ _ hw he (fun w hi hk => ?_) ?_
  · refine (pick_any b K n w (hs w hi) hK hn).mono ?_
    rintro e w' ⟨r, rfl, ⟨h1, h2⟩, hg, hz, hs⟩
    exact ⟨_, rfl, hd w w' hi hg hs, ⟨r, rfl, fun _ => ⟨h1, h2⟩⟩, trivial⟩
  · rintro v ⟨r, rfl, h2⟩
    have := h2 (by omega)
    exact h r this.1 this.2
theorem OF.setC {B : Nat} {w : World} {u : Value} {xs : List Nat} (h : OF B w u xs) {a : Addr} (hb : a.block < B) (v : Value) : OF B (w.setCell a v) u xs := by
  have hg : w.grownBy (w.setCell a v) (some a.block) := ⟨rfl, rfl, rfl, by simp, fun k _ hk => Below.heap_setCell _ _ _ _ (fun e => hk (by rw [e]))⟩
  refine h.kept hg ?_
  cases hu : u.ownBlock with
  | none => exact .inl rfl
  | some k => refine .inr fun e => ?_; have := (h.block k hu).1; cases e; omega
/-- One cell is stored, of what was made ahead of it. -/
theorem wpG_cell {I I' : World → Prop} (ad : Addr) (v : Value) (hI : ∀ w w', I' w → Below w.heap.size w w' → I' w') (hw : Region.wanted o (yielded ops a.tmps) = true) (h1 : ∀ w, I w → (execOp a.eval o).run Try.prog w = .ok .skip (w.setCell ad v)) (h2 : ∀ w, I w → depK o ks w → I' (w.setCell ad v))
    (h : wpG Try.prog ops Q F I' l cs (i + 1) [(i, fun _ => True)] (a.put o.dst undef)) : wpG Try.prog ops Q F I (o :: l) (GC.turn undef I' (fun _ => True) hI (fun _ _ _ _ => trivial) :: cs) i ks a := by
  simp only [wpG]
  refine ⟨.inl ⟨hw, .inr (.inr (.inl rfl)), fun h => absurd (show (3 : Nat) = 0 from h) (by decide), fun h => absurd (show (3 : Nat) = 4 from h) (by decide), fun h => absurd (show (3 : Nat) = 1 from h) (by decide), fun _ w hi hk => ?_⟩, fun u hu => ?_⟩
  · rw [h1 w hi]; exact ⟨h2 w hi hk, rfl, trivial⟩
  · have hu : u = undef := hu
    subst hu; exact h
end
theorem app_put {B S b : Nat} {g : Option Nat} {xs : List Nat} {v v2 : Value} {u : World} (h : appP B S g xs v u) (hne : ∀ k, g = some k → k ≠ b) (hS : b < S) : appP B S g xs v (u.setCell ⟨b, 7, none⟩ v2) := by
  have hg : u.grownBy (u.setCell ⟨b, 7, none⟩ v2) (some b) := ⟨rfl, rfl, rfl, by simp, fun k _ hk => Below.heap_setCell _ _ _ _ (fun e => hk (by rw [e]))⟩
  refine ⟨h.1.kept hg ?_, h.2⟩
  cases hu : v.ownBlock with
  | none => exact .inl rfl
  | some k =>
    refine .inr fun e => ?_
    cases e
    rcases h.2 with h2 | h2
    · exact hne _ (by rw [← h2, hu]) rfl
    · have := h2 _ hu; omega
/-- An own slice with a number more of a class; where it lies. -/
def appD (B S : Nat) (g0 : Option Nat) (xs : List Nat) (R : Nat → Prop) (v : Value) (w : World) : Prop := ∃ r, R r ∧ appP B S g0 (xs ++ [r]) v w
def Clm.appD (B S : Nat) (g0 : Option Nat) (xs : List Nat) (R : Nat → Prop) : Clm := ⟨3, fun _ u => ∃ q c, u = .slice q (xs.length + 1) c, fun _ u w => Go.Proofs.Ytjeeflldbhajiaa.appD B S g0 xs R u w, fun _ => ⟨_, none, 0, rfl⟩, fun _ _ _ _ h hb => (by obtain ⟨r, h1, h2⟩ := h; exact ⟨r, h1, h2.later hb⟩), fun h => nomatch h⟩
theorem wpG_appD {ops : Array Oper} {Q : Exit → Act → World → Prop} {F I : World → Prop} {l : List Oper} {cs : List GC} {i : Nat} {ks : List (Nat × (World → Prop))} {a : Act} {o : Oper} (B S : Nat) (xs : List Nat) (R : Nat → Prop) (r : Nat) (I' : World → Prop) (hI : ∀ w w', I' w → Below w.heap.size w w' → I' w') {s x : Operand} {v : Value} {b : Nat}
    (ho : o.op = .call { callee := .builtin .append, args := #[s, x], argTypes := #[25, 25] }) (hs : a.eval s = v) (hx : a.eval x = .slice (some ⟨b, 0, .none⟩) 1 1)
    (hw : Region.wanted o (yielded ops a.tmps) = true) (hR : R r) (hk : ∀ w, I w → depK o ks w → (OF B w v xs ∧ w.cell? ⟨b, 0, .none⟩ = some (.float .f32 r)) ∧ B ≤ w.heap.size ∧ S ≤ w.heap.size) (hn : xs.length < 1048576)
    (hI' : ∀ w w', I w → w.grownBy w' v.ownBlock → I' w')
    (h : ∀ q c, wpG Try.prog ops Q F I' l cs (i + 1) [(i, fun w => appD B S v.ownBlock xs R (.slice q (xs.length + 1) c) w)] (a.put o.dst (.slice q (xs.length + 1) c))) : wpG Try.prog ops Q F I (o :: l) (⟨Clm.appD B S v.ownBlock xs R, I', hI⟩ :: cs) i ks a := by
  obtain ⟨i0, hi, hz0, hz1, hz2⟩ := info_parts Try.infoF32
  refine wpG_turnE (Clm.appD B S v.ownBlock xs R) rfl I' hI hw (fun w hb hd => ?_) ?_
  · obtain ⟨⟨hO, hc⟩, hB, hS⟩ := hk w hb hd
    obtain ⟨v', w', hr, h2, h3, h4, h5⟩ := run_append_own_at (P := Try.prog) w B 25 o.type 22 i0 (.float .f32 0) 1 4 Try.underlying25 hi hz0 hz1 hz2 rfl (by decide) v xs.length (xs.map (Value.float .f32)) hO ⟨b, 0, .none⟩ 1 1 [.float .f32 r] rfl
      (by
        intro j u hj
        match j, hj with
        | 0, hj => simp at hj; subst hj; simpa [Addr.add] using hc
        | j + 1, hj => simp at hj) (by intro u hu; simp at hu; subst hu; rfl) (by unfold maxLen; omega) (by omega) hB
    have hO' : OF B w' v' (xs ++ [r]) := by
      unfold OF
      simpa using h2
    have he : (execOp a.eval o).run Try.prog w = .ok (.value v') w' := by
      unfold execOp
      simp only [ho, resolve, invoke, builtin, Sem.run_bind, Sem.run_pure, Result.andThen_ok, List.map_toArray, List.map_cons, List.map_nil, hs, hx, hr]
    rw [he]
    have hsh := hO'.shape
    rw [show (xs ++ [r]).length = xs.length + 1 by simp] at hsh
    exact ⟨hI' w w' hb h3, hsh, r, hR, hO', h5.imp id fun h k hk => by rw [h] at hk; cases hk; exact hS⟩
  · rintro u ⟨q, c, rfl⟩
    exact h q c
/-- A number more, stored. -/
def DPT (B sb K : Nat) (W : World) (b : Nat) (s : St) (q S : Nat) (g : Option Nat) (xs : List Nat) (R : Nat → Prop) (u : World) : Prop := ∃ q2 c2, DBI B sb K W b (barC s q (.slice q2 (xs.length + 1) c2)) u ∧ appD B S g xs R (.slice q2 (xs.length + 1) c2) u
theorem DPT.later {B sb K : Nat} {W : World} {b : Nat} {s : St} {q S : Nat} {g : Option Nat} {xs : List Nat} {R : Nat → Prop} {u u' : World} (h : DPT B sb K W b s q S g xs R u) (hb : Below u.heap.size u u') : DPT B sb K W b s q S g xs R u' := by
  obtain ⟨q9, c9, h1, r9, h2, h3⟩ := h
  exact ⟨q9, c9, h1.later hb, r9, h2, h3.later hb⟩
/-- The bar with its own heats. -/
def DBX (B sb K : Nat) (W : World) (b : Nat) (s : St) (q : Nat) (v : Value) (xs : List Nat) (u : World) : Prop := DBI B sb K W b (barC s q v) u ∧ OF B u v xs ∧ ∀ k, v.ownBlock = some k → k ≠ b
theorem DBX.later {B sb K : Nat} {W : World} {b : Nat} {s : St} {q : Nat} {v : Value} {xs : List Nat} {u u' : World} (h : DBX B sb K W b s q v xs u) (hb : Below u.heap.size u u') : DBX B sb K W b s q v xs u' := ⟨h.1.later hb, h.2.1.later hb, h.2.2⟩
theorem DBX.drawn {B sb K L : Nat} {W : World} {b : Nat} {s : St} {q : Nat} {v : Value} {xs : List Nat} {u u' : World} (h : DBX B sb K W b s q v xs u) (hs : sb < B) (hg : Turn sb (sb + 1) u u') (hk : SrcAt u' sb L) : DBX B sb L W b s q v xs u' :=
  ⟨h.1.drawn hs hg hk, h.2.1.kept (turn_grown hg) (by
    cases hu : v.ownBlock with
    | none => exact .inl rfl
    | some k => refine .inr fun e => ?_; have := (h.2.1.block k hu).1; cases e; omega), h.2.2⟩
set_option maxHeartbeats 8000000 in
theorem l03DrawBarOk_any (sb K : Nat) (w : World) (h : SrcAt w sb K) (hK : K ≤ 700000) : Calls Try.prog 95 #[.pointer (some ⟨sb, 0, none⟩)] w (fun e w' => ∃ (s : St) (q : Nat) (u : Value) (xs : List Nat), e = .returned (.agg #[.float .f32 s.a, .float .f32 s.b, .float .f32 s.c, .float .f32 s.d, .float .f32 s.p, .float .f32 s.l, .float .f32 q, u]) ∧ DS s ∧ DL s ∧ DB q xs ∧ OF w.heap.size w' u xs ∧ Turn sb (sb + 1) w w') := by
  have HS := Lib.hid h
  have hlt := h.lt
  have HPK := Lib.hid (fun (K : Nat) (n : Int) w h hK hn => pick_any sb K n w h hK hn)
  clear h
  go_enter Try.func95, Try.ntmps95
  go_wp2_with (first | (with_reducible refine at_list ?_; refine wpList_fop rfl rfl rfl rfl rfl ?_; intro r n hr0; have hr := hr0 _ _ (by first | with_reducible assumption | exact rfl) (by first | with_reducible assumption | exact rfl); clear hr0) | (with_reducible refine at_list ?_; refine wpList_neg rfl rfl rfl ?_; intro r hr0; have hr := hr0 _ (by first | with_reducible assumption | exact rfl); clear hr0) | (with_reducible refine at_list ?_; refine wpList_fop_g rfl rfl rfl rfl rfl ?_; intro r n hr0; have hr := hr0 _ _ (by first | with_reducible assumption | exact rfl) (by first | with_reducible assumption | exact rfl); clear hr0) | (with_reducible refine at_list ?_; refine wpList_wide_g rfl rfl Try.underlying22 Try.underlying40 rfl ?_; intro r n hr0; have hr := hr0 _ (by first | with_reducible assumption | exact rfl); clear hr0) | (with_reducible refine at_list ?_; refine wpList_wide rfl rfl rfl Try.underlying22 Try.underlying40 ?_; intro r n hr0; have hr := hr0 _ (by first | with_reducible assumption | exact rfl); clear hr0) | (go_at_call 97; refine stop_here ?_))
  unfold Stop
  generalize hw1 : w.alloc (Obj.cells _ _) = w1
  have hz1 : w1.heap.size = w.heap.size + 1 := by rw [← hw1]; simp
  have HS1 : Hid (SrcAt w1 sb K) := by show SrcAt _ _ _; rw [← hw1]; exact HS.out.later (B := w.heap.size) ((Below.refl _ _).alloc (Nat.le_refl _) _) hlt
  have HG1 : Hid (Turn sb (sb + 1) w w1) := by show Turn _ _ _ _; rw [← hw1]; exact Turn.below ((Below.refl _ _).alloc (Nat.le_refl _) _)
  have HR : Hid ((w1.cell? ⟨w.heap.size, 0, none⟩ = some (.float .f32 0) ∧ w1.cell? ⟨w.heap.size, 1, none⟩ = some (.float .f32 0) ∧ w1.cell? ⟨w.heap.size, 2, none⟩ = some (.float .f32 0) ∧ w1.cell? ⟨w.heap.size, 3, none⟩ = some (.float .f32 0) ∧ w1.cell? ⟨w.heap.size, 4, none⟩ = some (.float .f32 0) ∧ w1.cell? ⟨w.heap.size, 5, none⟩ = some (.float .f32 0) ∧ w1.cell? ⟨w.heap.size, 6, none⟩ = some (.float .f32 0) ∧ w1.cell? ⟨w.heap.size, 7, none⟩ = some (.slice none 0 0)) ∧ ∀ o, w1.frozen? ⟨w.heap.size, o, none⟩ = false) := by
    rw [← hw1]; clear hw1 hz1; exact ⟨⟨by go_simp, by go_simp, by go_simp, by go_simp, by go_simp, by go_simp, by go_simp, by go_simp⟩, fun o => by go_simp⟩
  clear hw1
  obtain ⟨b2, hb2⟩ : ∃ b2, b2 = w.heap.size := ⟨_, rfl⟩
  rw [← hb2] at HR hz1 hlt ⊢
  have HB2 := Lib.hid hb2
  clear hb2
  refine (l03DrawOk_any sb K _ HS1.out (by omega)).mono ?_
  rintro e w2 ⟨s, rfl, hd, hdl, hg2, hs2⟩
  have HD := Lib.hid (And.intro hd hdl)
  have HG2 := Lib.hid hg2
  have HS2 := Lib.hid hs2
  have hz2 := hg2.size
  clear hg2 hs2 hd hdl
  go_wp2_with (first | (with_reducible refine at_list ?_; refine wpList_fop rfl rfl rfl rfl rfl ?_; intro r n hr0; have hr := hr0 _ _ (by first | with_reducible assumption | exact rfl) (by first | with_reducible assumption | exact rfl); clear hr0) | (with_reducible refine at_list ?_; refine wpList_neg rfl rfl rfl ?_; intro r hr0; have hr := hr0 _ (by first | with_reducible assumption | exact rfl); clear hr0) | (with_reducible refine at_list ?_; refine wpList_fop_g rfl rfl rfl rfl rfl ?_; intro r n hr0; have hr := hr0 _ _ (by first | with_reducible assumption | exact rfl) (by first | with_reducible assumption | exact rfl); clear hr0) | (with_reducible refine at_list ?_; refine wpList_wide_g rfl rfl Try.underlying22 Try.underlying40 rfl ?_; intro r n hr0; have hr := hr0 _ (by first | with_reducible assumption | exact rfl); clear hr0) | (with_reducible refine at_list ?_; refine wpList_wide rfl rfl rfl Try.underlying22 Try.underlying40 ?_; intro r n hr0; have hr := hr0 _ (by first | with_reducible assumption | exact rfl); clear hr0) | (go_at_call 114; refine stop_here ?_))
  unfold Stop
  refine (HPK.out (K + 12) 8 _ HS2.out (by omega) (by omega)).mono ?_
  rintro e w3 ⟨r1, rfl, ⟨hr11, hr12⟩, hg3, hz3, hs3⟩
  have HG3 := Lib.hid (HG2.out.trans hg3)
  have HS3 := Lib.hid hs3
  clear hg3 hs3 HG2 HS2
  go_wp2_with (first | (with_reducible refine at_list ?_; refine wpList_fop rfl rfl rfl rfl rfl ?_; intro r n hr0; have hr := hr0 _ _ (by first | with_reducible assumption | exact rfl) (by first | with_reducible assumption | exact rfl); clear hr0) | (with_reducible refine at_list ?_; refine wpList_neg rfl rfl rfl ?_; intro r hr0; have hr := hr0 _ (by first | with_reducible assumption | exact rfl); clear hr0) | (with_reducible refine at_list ?_; refine wpList_fop_g rfl rfl rfl rfl rfl ?_; intro r n hr0; have hr := hr0 _ _ (by first | with_reducible assumption | exact rfl) (by first | with_reducible assumption | exact rfl); clear hr0) | (with_reducible refine at_list ?_; refine wpList_wide_g rfl rfl Try.underlying22 Try.underlying40 rfl ?_; intro r n hr0; have hr := hr0 _ (by first | with_reducible assumption | exact rfl); clear hr0) | (with_reducible refine at_list ?_; refine wpList_wide rfl rfl rfl Try.underlying22 Try.underlying40 ?_; intro r n hr0; have hr := hr0 _ (by first | with_reducible assumption | exact rfl); clear hr0) | (go_at_call 114; refine stop_here ?_))
  unfold Stop
  obtain ⟨q, rfl⟩ : ∃ x, x = r := ⟨r, rfl⟩
  have HQ := Lib.hid hr
  clear hr
  refine calls_named ?_
  intro w4 hw4
  have HS4 : Hid (SrcAt w4 sb (K + 14)) := by show SrcAt _ _ _; rw [hw4]; exact HS3.out.later (B := sb + 1) (by (repeat (first | (with_reducible exact Below.refl _ _) | (with_reducible refine below_drewN ?_ _) | (with_reducible refine Below.alloc ?_ (by first | omega | (simp only [World.size_alloc, World.size_setCell, World.size_drew, size_drewN']; omega)) _) | (with_reducible refine Below.setCell ?_ (by first | omega | (simp only [World.size_alloc, World.size_setCell, World.size_drew, size_drewN']; omega)) _)))) (Nat.lt_succ_self _)
  have HG4 : Hid (Turn sb (sb + 1) w1 w4) := by show Turn _ _ _ _; rw [hw4]; exact HG3.out.trans (Turn.below (by (repeat (first | (with_reducible exact Below.refl _ _) | (with_reducible assumption) | (with_reducible refine below_then ?_ (by assumption)) | (with_reducible refine Below.trans ?_ (by assumption)) | (with_reducible refine below_drewN ?_ _) | (with_reducible apply Below.drew) | (with_reducible refine below_alloc ?_ _) | refine Below.setCell ?_ (by first | (simp; done) | (simp; omega)) _))))
  obtain ⟨pb, hpb⟩ : ∃ pb, pb = w2.heap.size := ⟨_, rfl⟩
  have hlt3 := HS3.out.lt
  have hzz3 := HG3.out.size
  have HO4 : Hid (owned w4 pb (barC s q (.slice none 0 0)) ∧ pb < w4.heap.size) := by
    show owned _ _ _ ∧ _
    rw [hw4, hpb, ← hz3]
    refine ⟨?_, by simp⟩
    intro k x hx
    match k, hx with
    | 0, hx => obtain rfl : _ = x := by simpa [barC] using hx
               exact ⟨by go_simp, by go_simp⟩
    | 1, hx => obtain rfl : _ = x := by simpa [barC] using hx
               exact ⟨by go_simp, by go_simp⟩
    | 2, hx => obtain rfl : _ = x := by simpa [barC] using hx
               exact ⟨by go_simp, by go_simp⟩
    | 3, hx => obtain rfl : _ = x := by simpa [barC] using hx
               exact ⟨by go_simp, by go_simp⟩
    | 4, hx => obtain rfl : _ = x := by simpa [barC] using hx
               exact ⟨by go_simp, by go_simp⟩
    | 5, hx => obtain rfl : _ = x := by simpa [barC] using hx
               exact ⟨by go_simp, by go_simp⟩
    | 6, hx => obtain rfl : _ = x := by simpa [barC] using hx
               exact ⟨by go_simp, by go_simp⟩
    | 7, hx => obtain rfl : _ = x := by simpa [barC] using hx
               exact ⟨by go_simp, by go_simp⟩
    | k + 8, hx => simp [barC] at hx
  rw [← hpb]
  have hpb1 : w1.heap.size ≤ pb := by omega
  clear hw4 hpb
  refine (HPK.out (K + 14) 7 _ HS4.out (by omega) (by omega)).mono ?_
  rintro e w5 ⟨r2, rfl, ⟨hr21, hr22⟩, hg5, hz5, hs5⟩
  have HD5 : Hid (DBX w1.heap.size sb (K + 16) w1 pb s q (.slice none 0 0) [] w5) :=
    (show DBX w1.heap.size sb (K + 14) w1 pb s q (.slice none 0 0) [] w4 from ⟨⟨HS4.out, HG4.out, HO4.out.1, hpb1, HO4.out.2⟩, OF.nil0 _ _, fun k hk => by cases hk⟩).drawn (by omega) hg5 hs5
  clear hg5 hs5 hz5 HS4 HG4 HO4 HS3 HG3 HS1 HS
  go_wp2_with (first | (with_reducible refine at_list ?_; refine wpList_fop rfl rfl rfl rfl rfl ?_; intro r n hr0; have hr := hr0 _ _ (by first | with_reducible assumption | exact rfl) (by first | with_reducible assumption | exact rfl); clear hr0) | (with_reducible refine at_list ?_; refine wpList_neg rfl rfl rfl ?_; intro r hr0; have hr := hr0 _ (by first | with_reducible assumption | exact rfl); clear hr0) | (with_reducible refine at_list ?_; refine wpList_fop_g rfl rfl rfl rfl rfl ?_; intro r n hr0; have hr := hr0 _ _ (by first | with_reducible assumption | exact rfl) (by first | with_reducible assumption | exact rfl); clear hr0) | (with_reducible refine at_list ?_; refine wpList_wide_g rfl rfl Try.underlying22 Try.underlying40 rfl ?_; intro r n hr0; have hr := hr0 _ (by first | with_reducible assumption | exact rfl); clear hr0) | (with_reducible refine at_list ?_; refine wpList_wide rfl rfl rfl Try.underlying22 Try.underlying40 ?_; intro r n hr0; have hr := hr0 _ (by first | with_reducible assumption | exact rfl); clear hr0))
  refine wp_named ?_
  intro ws hws
  obtain ⟨N, hN⟩ : ∃ N : Nat, 1 + r2 = (N : Int) := Int.eq_ofNat_of_zero_le (by omega)
  simp only [hN] at hws ⊢
  have hNb : 1 ≤ N ∧ N ≤ 7 := by omega
  have HDs : Hid (DBX w1.heap.size sb (K + 16) w1 pb s q (.slice none 0 0) [] ws) := by show DBX _ _ _ _ _ _ _ _ _ _; rw [hws]; exact HD5.out
  have HR1 := Lib.hid (And.intro hr11 hr12)
  clear hws HD5 hN hr21 hr22 hr11 hr12
  go_loopw [4] (fun t wr => ∃ (k : Nat) (xs : List Nat) (q0 : Option Addr) (c0 : Nat), k ≤ N ∧ t = .int .i64 ((N : Int) - k) ∧ Hid (xs.length = k) ∧ Hid (DH xs) ∧ Hid (DBX w1.heap.size sb (K + 16 + 2 * k) w1 pb s q (.slice q0 xs.length c0) xs wr)) (fun t _ => (intOf t).toNat)
  case atStart => exact ⟨0, [], none, 0, Nat.zero_le _, by simp, rfl, fun j hj => (by simp at hj), HDs.out⟩
  case round =>
    obtain ⟨k, xs, q0, c0, hkN, rfl, HXK, HH, HX⟩ := hrel
    clear HDs
    obtain ⟨RD, hRD⟩ : ∃ R : Nat → Prop, R = fun x => ∃ m : Int, (-32 ≤ m ∧ m ≤ 32) ∧ cn .f32 x = fop .quo .f32 (cn .f32 (floatOfInt .f32 m)) (cn .f32 1082130432) := ⟨_, rfl⟩
    obtain ⟨KK, hKK⟩ : ∃ q, K + 16 + 2 * k = q := ⟨_, rfl⟩
    rw [hKK] at HX
    have hK1 : KK ≤ 800000 := by omega
    have hn64 : IntKind.i64.wrap ((N : Int) - k - 1) = (N : Int) - k - 1 := i64_fit (by omega)
    by_cases hk : k < N
    · have hpos : (0 : Int) < (N : Int) - k := by omega
      have hsb : sb < w1.heap.size := by omega
      have yy := (HX.out.1.2.2.1 7 _ rfl).1
      go_wp2_with (first | (with_reducible refine at_list ?_; refine wpList_fop rfl rfl rfl rfl rfl ?_; intro r n hr0; have hr := hr0 _ _ (by first | with_reducible assumption | exact rfl) (by first | with_reducible assumption | exact rfl); clear hr0) | (with_reducible refine at_list ?_; refine wpList_neg rfl rfl rfl ?_; intro r hr0; have hr := hr0 _ (by first | with_reducible assumption | exact rfl); clear hr0) | (with_reducible refine at_list ?_; refine wpList_fop_g rfl rfl rfl rfl rfl ?_; intro r n hr0; have hr := hr0 _ _ (by first | with_reducible assumption | exact rfl) (by first | with_reducible assumption | exact rfl); clear hr0) | (with_reducible refine at_list ?_; refine wpList_wide_g rfl rfl Try.underlying22 Try.underlying40 rfl ?_; intro r n hr0; have hr := hr0 _ (by first | with_reducible assumption | exact rfl); clear hr0) | (with_reducible refine at_list ?_; refine wpList_wide rfl rfl rfl Try.underlying22 Try.underlying40 ?_; intro r n hr0; have hr := hr0 _ (by first | with_reducible assumption | exact rfl); clear hr0))
      have HNE := Lib.hid HX.out.2.2
      have HBK := Lib.hid HX.out.2.1.block
      have hxl : xs.length < 1048576 := by have := HXK.out; omega
      have hpbw : pb < wr.heap.size := HX.out.1.2.2.2.2
      have hWw : w1.heap.size ≤ wr.heap.size := HX.out.1.2.1.size
      (apply wp_region_planL (F := (fun u => u.cell? ⟨pb, 7, none⟩ = some (.slice q0 xs.length c0))) (fun u => DBX w1.heap.size sb KK w1 pb s q (.slice q0 xs.length c0) xs u ∧ wr.heap.size ≤ u.heap.size) (fun a c h hb => ⟨h.1.later hb, Nat.le_trans h.2 hb.size⟩); (case hW => exact (by exact ⟨HX.out, Nat.le_refl _⟩)); (case hF0 => exact (by (intro u hu; exact (hu.1.1.2.2.1 7 _ rfl).1))); ((apply wpG_det; (case hw => exact rfl); (case hs => (intro cs b h; cases h)); (case h1 => (intro w'; go_simp <;> exact rfl))); apply wpG_norm; (case ha => (simp only [Act.put, List.setIfInBounds_toArray, List.set_cons_zero, List.set_cons_succ]; exact rfl))); ((apply wpG_any; (case hw => exact rfl); (case h1 => (intro w' hb; go_simp <;> exact rfl))); apply wpG_norm; (case ha => (simp only [Act.put, List.setIfInBounds_toArray, List.set_cons_zero, List.set_cons_succ]; exact rfl))); ((apply wpG_det; (case hw => exact rfl); (case hs => (intro cs b h; cases h)); (case h1 => (intro w'; go_simp <;> exact rfl))); apply wpG_norm; (case ha => (simp only [Act.put, List.setIfInBounds_toArray, List.set_cons_zero, List.set_cons_succ]; exact rfl))); ((apply wpG_pickI (I' := fun u => DBX w1.heap.size sb (KK + 2) w1 pb s q (.slice q0 xs.length c0) xs u ∧ wr.heap.size ≤ u.heap.size) (b := sb) (K := KK) (n := 65) (fun a c h hb => ⟨h.1.later hb, Nat.le_trans h.2 hb.size⟩) (by omega) (by omega); (case hw => exact rfl); (case he => (intro w'; go_simp <;> first | exact rfl | exact ⟨rfl, rfl⟩)); (case hs => (intro u hu; exact hu.1.1.1)); (case hd => (intro u u' hu hg hs; exact ⟨hu.1.drawn hsb hg hs, Nat.le_trans hu.2 hg.size⟩)); intro m hm1 hm2; have e5 : IntKind.i64.wrap (m - 32) = m - 32 := i64_fit (by omega)); apply wpG_norm; (case ha => (simp only [Act.put, List.setIfInBounds_toArray, List.set_cons_zero, List.set_cons_succ]; exact rfl))); ((apply wpG_det; (case hw => exact rfl); (case hs => (intro cs b h; cases h)); (case h1 => (intro w'; go_simp <;> exact rfl))); apply wpG_norm; (case ha => (simp only [Act.put, List.setIfInBounds_toArray, List.set_cons_zero, List.set_cons_succ]; exact rfl))); ((apply wpG_det; (case hw => exact rfl); (case hs => (intro cs b h; cases h)); (case h1 => (intro w'; go_simp <;> exact rfl))); apply wpG_norm; (case ha => (simp only [Act.put, List.setIfInBounds_toArray, List.set_cons_zero, List.set_cons_succ]; exact rfl))); ((apply wpG_fop rfl rfl rfl rfl rfl; intro r hr0; have hr := hr0 _ _ (by first | with_reducible assumption | exact rfl) (by first | with_reducible assumption | exact rfl); clear hr0); apply wpG_norm; (case ha => (simp only [Act.put, List.setIfInBounds_toArray, List.set_cons_zero, List.set_cons_succ]; exact rfl))); ((apply wpG_lit1 (B := wr.heap.size) (x := .float .f32 r); (case hx => (first | exact rfl | (simp [Op.operands]; exact rfl))); (case hw => exact rfl); (case hB => (intro u h; exact h.2)); (case h1 => (intro w'; go_simp <;> exact rfl)); intro bl); apply wpG_norm; (case ha => (simp only [Act.put, List.setIfInBounds_toArray, List.set_cons_zero, List.set_cons_succ]; exact rfl))); ((apply wpG_appD w1.heap.size wr.heap.size xs RD r (fun u => DBI w1.heap.size sb (KK + 2) w1 pb (barC s q (.slice q0 xs.length c0)) u) (fun a c h hb => h.later hb) (v := .slice q0 xs.length c0) (b := bl); (case ho => exact rfl); (case hs => exact rfl); (case hx => exact rfl); (case hw => exact rfl); (case hR => (rw [hRD]; exact ⟨m - 32, by omega, hr⟩)); (case hk => (intro w' hi hd; exact ⟨⟨hi.1.2.1, (hd.1.2 0 _ rfl).1⟩, Nat.le_trans hWw hi.2, hi.2⟩)); (case hn => exact hxl); (case hI' => (intro a c hi hg; exact hi.1.1.grown hsb (Nat.le_refl _) hg (fun kk hkk => ⟨HNE.out kk hkk, (HBK.out kk hkk).1⟩))); intro q2 c2); apply wpG_norm; (case ha => (simp only [Act.put, List.setIfInBounds_toArray, List.set_cons_zero, List.set_cons_succ]; exact rfl))); ((apply wpG_det; (case hw => exact rfl); (case hs => (intro cs b h; cases h)); (case h1 => (intro w'; go_simp <;> exact rfl))); apply wpG_norm; (case ha => (simp only [Act.put, List.setIfInBounds_toArray, List.set_cons_zero, List.set_cons_succ]; exact rfl))); ((apply wpG_cell (I' := DPT w1.heap.size sb (KK + 2) w1 pb s q wr.heap.size (Value.slice q0 xs.length c0).ownBlock xs RD) ⟨pb, 7, none⟩ (.slice q2 (xs.length + 1) c2) (fun a c h hb => DPT.later h hb); (case hw => exact rfl); (case h1 => (intro u hu; have y7 := (hu.2.2.1 7 _ rfl).1; have z7 := (hu.2.2.1 7 _ rfl).2; go_simp)); (case h2 => (intro u hu hd; obtain ⟨r9, h2, h3⟩ := hd.1; exact ⟨q2, c2, hu.put hsb (Nat.le_refl _), r9, h2, app_put h3 HNE.out hpbw⟩))); apply wpG_norm; (case ha => (simp only [Act.put, List.setIfInBounds_toArray, List.set_cons_zero, List.set_cons_succ]; exact rfl))); refine wpG_nil ?_; intro w' hi hkk)
      rotate_left
      case hFs => repeat' (first | exact trivial | (refine ⟨?_, ?_⟩) | (intro h; exact absurd (show (0 : Nat) = 3 from h.1) (by decide)) | (intro h; exact absurd (show (1 : Nat) = 3 from h.1) (by decide)) | (intro h; exact absurd (show (4 : Nat) = 3 from h.1) (by decide)) | (intro _ u hu; exact (hu.1.1.2.2.1 7 _ rfl).1) | (intro _ u hu; exact (hu.2.2.1 7 _ rfl).1) | (intro h; exact Bool.noConfusion (h.2.symm.trans (by kernel_rfl : _ = true))))
      all_goals (try (first | kernel_rfl | rfl))
      obtain ⟨q2, c2, hd9, r9, hR9, ha9⟩ := hi
      rw [hRD] at hR9
      obtain ⟨m9, hm9, hr9⟩ := hR9
      have HX9 : Hid (DBX w1.heap.size sb (K + 16 + 2 * (k + 1)) w1 pb s q (.slice q2 (xs ++ [r9]).length c2) (xs ++ [r9]) w') := by
        have e9 : KK + 2 = K + 16 + 2 * (k + 1) := by omega
        rw [← e9, show (xs ++ [r9]).length = xs.length + 1 by simp]
        refine ⟨hd9, ha9.1, fun kk hkk => ?_⟩
        rcases ha9.2 with h9 | h9
        · rw [h9] at hkk; exact HNE.out kk hkk
        · have := h9 kk hkk; omega
      have HH9 := Lib.hid (HH.out.add hm9 hr9)
      clear hd9 ha9 hkk yy
      go_wp2_with (first | (with_reducible refine at_list ?_; refine wpList_fop rfl rfl rfl rfl rfl ?_; intro r n hr0; have hr := hr0 _ _ (by first | with_reducible assumption | exact rfl) (by first | with_reducible assumption | exact rfl); clear hr0) | (with_reducible refine at_list ?_; refine wpList_neg rfl rfl rfl ?_; intro r hr0; have hr := hr0 _ (by first | with_reducible assumption | exact rfl); clear hr0) | (with_reducible refine at_list ?_; refine wpList_fop_g rfl rfl rfl rfl rfl ?_; intro r n hr0; have hr := hr0 _ _ (by first | with_reducible assumption | exact rfl) (by first | with_reducible assumption | exact rfl); clear hr0) | (with_reducible refine at_list ?_; refine wpList_wide_g rfl rfl Try.underlying22 Try.underlying40 rfl ?_; intro r n hr0; have hr := hr0 _ (by first | with_reducible assumption | exact rfl); clear hr0) | (with_reducible refine at_list ?_; refine wpList_wide rfl rfl rfl Try.underlying22 Try.underlying40 ?_; intro r n hr0; have hr := hr0 _ (by first | with_reducible assumption | exact rfl); clear hr0))
      go_roundw
      case rel => exact ⟨k + 1, xs ++ [r9], q2, c2, by omega, by go_num, by show _ = _; have := HXK.out; simp [this], HH9.out, HX9.out⟩
      case measure => simp [intOf]; omega
    · have hke : k = N := by omega
      subst hke
      have hpos2 : ¬ (0 : Int) < (k : Int) - k := by omega
      have hsb : sb < w1.heap.size := by omega
      have HXw := HX.out.1.2.1
      have o := HX.out.1.2.2.1
      obtain ⟨a0, z0⟩ := o 0 _ rfl
      obtain ⟨a1, z1⟩ := o 1 _ rfl
      obtain ⟨a2, z2⟩ := o 2 _ rfl
      obtain ⟨a3, z3⟩ := o 3 _ rfl
      obtain ⟨a4, z4⟩ := o 4 _ rfl
      obtain ⟨a5, z5⟩ := o 5 _ rfl
      obtain ⟨a6, z6⟩ := o 6 _ rfl
      obtain ⟨a7, z7⟩ := o 7 _ rfl
      have hbl : wr.heap[b2]? = w1.heap[b2]? := HXw.block b2 (by omega) (.inr (by omega))
      obtain ⟨⟨q0', q1, q2, q3, q4, q5, q6, q7⟩, qf⟩ := HR.out
      have t0 := (World.cell?_of_block (a := ⟨b2, 0, none⟩) hbl).trans q0'
      have t1 := (World.cell?_of_block (a := ⟨b2, 1, none⟩) hbl).trans q1
      have t2 := (World.cell?_of_block (a := ⟨b2, 2, none⟩) hbl).trans q2
      have t3 := (World.cell?_of_block (a := ⟨b2, 3, none⟩) hbl).trans q3
      have t4 := (World.cell?_of_block (a := ⟨b2, 4, none⟩) hbl).trans q4
      have t5 := (World.cell?_of_block (a := ⟨b2, 5, none⟩) hbl).trans q5
      have t6 := (World.cell?_of_block (a := ⟨b2, 6, none⟩) hbl).trans q6
      have t7 := (World.cell?_of_block (a := ⟨b2, 7, none⟩) hbl).trans q7
      have f0 := (World.frozen?_of_block (a := ⟨b2, 0, none⟩) hbl).trans (qf 0)
      have f1 := (World.frozen?_of_block (a := ⟨b2, 1, none⟩) hbl).trans (qf 1)
      have f2 := (World.frozen?_of_block (a := ⟨b2, 2, none⟩) hbl).trans (qf 2)
      have f3 := (World.frozen?_of_block (a := ⟨b2, 3, none⟩) hbl).trans (qf 3)
      have f4 := (World.frozen?_of_block (a := ⟨b2, 4, none⟩) hbl).trans (qf 4)
      have f5 := (World.frozen?_of_block (a := ⟨b2, 5, none⟩) hbl).trans (qf 5)
      have f6 := (World.frozen?_of_block (a := ⟨b2, 6, none⟩) hbl).trans (qf 6)
      have f7 := (World.frozen?_of_block (a := ⟨b2, 7, none⟩) hbl).trans (qf 7)
      have hne2 : pb ≠ b2 := by omega
      have HOX := Lib.hid HX.out.2.1
      have HTW : Hid (Turn sb (sb + 1) w wr) := HG1.out.trans HXw
      have hbw : b2 < wr.heap.size := by have := HXw.size; omega
      clear o hbl q0' q1 q2 q3 q4 q5 q6 q7 qf HXw
      go_wp2_with (first | (with_reducible refine at_list ?_; refine wpList_fop rfl rfl rfl rfl rfl ?_; intro r n hr0; have hr := hr0 _ _ (by first | with_reducible assumption | exact rfl) (by first | with_reducible assumption | exact rfl); clear hr0) | (with_reducible refine at_list ?_; refine wpList_neg rfl rfl rfl ?_; intro r hr0; have hr := hr0 _ (by first | with_reducible assumption | exact rfl); clear hr0) | (with_reducible refine at_list ?_; refine wpList_fop_g rfl rfl rfl rfl rfl ?_; intro r n hr0; have hr := hr0 _ _ (by first | with_reducible assumption | exact rfl) (by first | with_reducible assumption | exact rfl); clear hr0) | (with_reducible refine at_list ?_; refine wpList_wide_g rfl rfl Try.underlying22 Try.underlying40 rfl ?_; intro r n hr0; have hr := hr0 _ (by first | with_reducible assumption | exact rfl); clear hr0) | (with_reducible refine at_list ?_; refine wpList_wide rfl rfl rfl Try.underlying22 Try.underlying40 ?_; intro r n hr0; have hr := hr0 _ (by first | with_reducible assumption | exact rfl); clear hr0))
      refine bodyPost_ret (v := .agg #[.float .f32 s.a, .float .f32 s.b, .float .f32 s.c, .float .f32 s.d, .float .f32 s.p, .float .f32 s.l, .float .f32 q, .slice q0 xs.length c0]) (by simp [results, Try.results95, go_sem, *]) rfl ?_
      have hg : w.heap.size ≤ b2 := by have := HB2.out; omega
      have hb2 := HB2.out
      obtain ⟨hr11, hr12⟩ := HR1.out
      have hq := quarter_val (n := 1 + r1) (by omega)
      have hq2 := HQ.out
      refine ⟨s, q, .slice q0 xs.length c0, rfl, HD.out.1, HD.out.2, xs, ⟨⟨1 + r1, by omega, by rw [hq2]; exact hq⟩, ⟨raw_lt hq2 hq.1 (fop_lt _ _ _), HH.out.wf⟩, by have := HXK.out; omega, fun j hj => (HH.out j hj).2⟩, ?_, ?_⟩
      · exact (((((((((HOX.out.setC (a := ⟨b2, 0, none⟩) (by show b2 < _; omega) _).setC (a := ⟨b2, 1, none⟩) (by show b2 < _; omega) _).setC (a := ⟨b2, 2, none⟩) (by show b2 < _; omega) _).setC (a := ⟨b2, 3, none⟩) (by show b2 < _; omega) _).setC (a := ⟨b2, 4, none⟩) (by show b2 < _; omega) _).setC (a := ⟨b2, 5, none⟩) (by show b2 < _; omega) _).setC (a := ⟨b2, 6, none⟩) (by show b2 < _; omega) _).setC (a := ⟨b2, 7, none⟩) (by show b2 < _; omega) _)).base (by omega)
      · exact ((((((((HTW.out.set (ad := ⟨b2, 0, none⟩) hg _).set (ad := ⟨b2, 1, none⟩) hg _).set (ad := ⟨b2, 2, none⟩) hg _).set (ad := ⟨b2, 3, none⟩) hg _).set (ad := ⟨b2, 4, none⟩) hg _).set (ad := ⟨b2, 5, none⟩) hg _).set (ad := ⟨b2, 6, none⟩) hg _).set (ad := ⟨b2, 7, none⟩) hg _)
set_option maxHeartbeats 4000000 in
theorem B10Bar_any (p : Option Addr) (n c : Nat) (w : World) (h : BY w.heap.size w p n c) (hn : n ≤ 1048576) : Calls Try.prog 46 #[.slice p n c] w (fun e w' => ∃ (s : St) (q : Nat) (u : Value) (xs : List Nat), e = .returned (.agg #[.float .f32 s.a, .float .f32 s.b, .float .f32 s.c, .float .f32 s.d, .float .f32 s.p, .float .f32 s.l, .float .f32 q, u]) ∧ DS s ∧ DL s ∧ DB q xs ∧ OF w.heap.size w' u xs ∧ Below w.heap.size w w') := by
  have H := Lib.hid h
  have HN := Lib.hid hn
  clear h hn
  go_enter Try.func46, Try.ntmps46
  go_wp2_with (first | (with_reducible refine at_list ?_; refine wpList_fop rfl rfl rfl rfl rfl ?_; intro r n hr0; have hr := hr0 _ _ (by first | with_reducible assumption | exact rfl) (by first | with_reducible assumption | exact rfl); clear hr0) | (with_reducible refine at_list ?_; refine wpList_neg rfl rfl rfl ?_; intro r hr0; have hr := hr0 _ (by first | with_reducible assumption | exact rfl); clear hr0) | (with_reducible refine at_list ?_; refine wpList_fop_g rfl rfl rfl rfl rfl ?_; intro r n hr0; have hr := hr0 _ _ (by first | with_reducible assumption | exact rfl) (by first | with_reducible assumption | exact rfl); clear hr0) | (with_reducible refine at_list ?_; refine wpList_wide_g rfl rfl Try.underlying22 Try.underlying40 rfl ?_; intro r n hr0; have hr := hr0 _ (by first | with_reducible assumption | exact rfl); clear hr0) | (with_reducible refine at_list ?_; refine wpList_wide rfl rfl rfl Try.underlying22 Try.underlying40 ?_; intro r n hr0; have hr := hr0 _ (by first | with_reducible assumption | exact rfl); clear hr0) | (go_at_call 94; refine (l00From_any _ _ _ _ ((H.out.later (C := w.heap.size) (by (repeat (first | (with_reducible exact Below.refl _ _) | (with_reducible assumption) | (with_reducible refine below_then ?_ (by assumption)) | (with_reducible refine Below.trans ?_ (by assumption)) | (with_reducible refine below_drewN ?_ _) | (with_reducible apply Below.drew) | (with_reducible refine below_alloc ?_ _) | refine Below.setCell ?_ (by first | (simp; done) | (simp; omega)) _))) (Nat.le_refl _)).mono (by first | omega | (simp; done) | (simp; omega))) HN.out).mono ?_; rintro e w' ⟨rfl, hb, hs⟩; (try simp only [World.size_alloc] at hs); have HS := Lib.hid hs; clear hs; obtain ⟨hT, hk⟩ := bv_next hb (by (repeat (with_reducible first | assumption | apply Trk.alloc | apply Trk.setCell | apply Trk.drewN | apply Trk.drew | exact Trk.nil _))); simp only [SameOn, World.size_alloc, World.size_setCell, World.size_drew, size_drewN', and_true] at hk; have hsz := Below.size hb; (try simp only [World.size_alloc, World.size_setCell, World.size_drew, size_drewN'] at hsz)) | (go_at_call 95; refine stop_here ?_))
  unfold Stop
  refine (l03DrawBarOk_any (w.heap.size + 1) 0 _ HS.out (by omega)).mono ?_
  rintro e w2 ⟨s, q, u, xs, rfl, hd, hdl, hdb, hO, hg⟩
  have hbs : w.heap.size < w'.heap.size := by omega
  have HO := Lib.hid (hO.base (show w.heap.size + 1 ≤ w'.heap.size by omega))
  obtain ⟨qu, cu, rfl⟩ := hO.shape
  have hB : Below w.heap.size w w2 := (show Below w.heap.size w w' by (repeat (first | (with_reducible exact Below.refl _ _) | (with_reducible assumption) | (with_reducible refine below_then ?_ (by assumption)) | (with_reducible refine Below.trans ?_ (by assumption)) | (with_reducible refine below_drewN ?_ _) | (with_reducible apply Below.drew) | (with_reducible refine below_alloc ?_ _) | refine Below.setCell ?_ (by first | (simp; done) | (simp; omega)) _))).trans ⟨hg.os, hg.tape, hg.output, hg.size, fun k hk' => hg.block k (by omega) (.inl (by omega))⟩
  obtain ⟨hT2, hk2⟩ := turn_track hg (L := [w.heap.size]) (fun x hx => by simp at hx; omega) (by simp)
  simp only [SameOn, and_true] at hk2
  have hz2 := hg.size
  clear hg hb hT hT2 hO
  go_wp2_with (first | (with_reducible refine at_list ?_; refine wpList_fop rfl rfl rfl rfl rfl ?_; intro r n hr0; have hr := hr0 _ _ (by first | with_reducible assumption | exact rfl) (by first | with_reducible assumption | exact rfl); clear hr0) | (with_reducible refine at_list ?_; refine wpList_neg rfl rfl rfl ?_; intro r hr0; have hr := hr0 _ (by first | with_reducible assumption | exact rfl); clear hr0) | (with_reducible refine at_list ?_; refine wpList_fop_g rfl rfl rfl rfl rfl ?_; intro r n hr0; have hr := hr0 _ _ (by first | with_reducible assumption | exact rfl) (by first | with_reducible assumption | exact rfl); clear hr0) | (with_reducible refine at_list ?_; refine wpList_wide_g rfl rfl Try.underlying22 Try.underlying40 rfl ?_; intro r n hr0; have hr := hr0 _ (by first | with_reducible assumption | exact rfl); clear hr0) | (with_reducible refine at_list ?_; refine wpList_wide rfl rfl rfl Try.underlying22 Try.underlying40 ?_; intro r n hr0; have hr := hr0 _ (by first | with_reducible assumption | exact rfl); clear hr0))
  refine bodyPost_ret (v := .agg #[.float .f32 s.a, .float .f32 s.b, .float .f32 s.c, .float .f32 s.d, .float .f32 s.p, .float .f32 s.l, .float .f32 q, .slice qu xs.length cu]) (by simp [results, Try.results46, go_sem, *]) rfl ?_
  exact ⟨s, q, .slice qu xs.length cu, xs, rfl, hd, hdl, hdb, (((((((((HO.out.setC (a := ⟨w.heap.size, 0, none⟩) (Nat.lt_succ_self _) _).setC (a := ⟨w.heap.size, 1, none⟩) (Nat.lt_succ_self _) _).setC (a := ⟨w.heap.size, 2, none⟩) (Nat.lt_succ_self _) _).setC (a := ⟨w.heap.size, 3, none⟩) (Nat.lt_succ_self _) _).setC (a := ⟨w.heap.size, 4, none⟩) (Nat.lt_succ_self _) _).setC (a := ⟨w.heap.size, 5, none⟩) (Nat.lt_succ_self _) _).setC (a := ⟨w.heap.size, 6, none⟩) (Nat.lt_succ_self _) _).setC (a := ⟨w.heap.size, 7, none⟩) (Nat.lt_succ_self _) _)).base (Nat.le_succ _), by (repeat (first | (with_reducible exact Below.refl _ _) | (with_reducible assumption) | (with_reducible refine below_then ?_ (by assumption)) | (with_reducible refine Below.trans ?_ (by assumption)) | (with_reducible refine below_drewN ?_ _) | (with_reducible apply Below.drew) | (with_reducible refine below_alloc ?_ _) | refine Below.setCell ?_ (by first | (simp; done) | (simp; omega)) _))⟩
end Go.Proofs.Ytjeeflldbhajiaa
set_option linter.unusedSimpArgs false
set_option linter.unusedVariables false
set_option linter.unusedSectionVars false
namespace Go.Proofs.Ytjeeflldbhajiaa
open Go Go.RowKit
def same (a b : Nat) : Bool := cn .f32 a == cn .f32 b
def sgn64 (x : Nat) : Bool := decide (9223372036854775808 ≤ x % 18446744073709551616)
theorem sgn64_word (s : Bool) (r : Nat) (h : r ≤ Ieee.double.infRung) : sgn64 (Ieee.double.word s r) = s := by
  have h1 : Ieee.double.infRung = 9218868437227405312 := rfl
  have h2 : Ieee.double.signWeight = 9223372036854775808 := rfl
  rw [h1] at h
  unfold sgn64 Ieee.Format.word
  rw [h2]
  cases s
  · simp; omega
  · simp; omega
theorem near64 (s : Bool) (m : Nat) (p : Int) : sgn64 (Ieee.double.nearest s m p) = s := by
  unfold Ieee.Format.nearest
  split
  · exact sgn64_word _ _ (Nat.zero_le _)
  · exact sgn64_word _ _ (Nat.min_le_right ..)
theorem sgn64_wide {c : Nat} (h : isN .f32 c = false) : sgn64 (wide c) = neg32 c := by
  unfold wide
  rw [h, if_neg (by simp), decode_single]
  have hn : isN .f32 c = (FloatKind.f32.decode c).isNaN := rfl
  rw [decode_single] at hn
  by_cases h1 : c % 2147483648 < 8388608
  · rw [if_pos h1]; exact near64 _ _ _
  · rw [if_neg h1] at hn ⊢
    by_cases h2 : c % 2147483648 < 2139095040
    · rw [if_pos h2]; exact near64 _ _ _
    · rw [if_neg h2] at hn ⊢
      by_cases h3 : c % 2147483648 = 2139095040
      · rw [if_pos h3]; exact sgn64_word _ _ (Nat.le_refl _)
      · rw [if_neg h3] at hn
        rw [h] at hn; cases hn
theorem rung64_word (s : Bool) (r : Nat) (h : r ≤ Ieee.double.infRung) : Ieee.double.word s r % 9223372036854775808 ≤ 9218868437227405312 := by
  have h1 : Ieee.double.infRung = 9218868437227405312 := rfl
  have h2 : Ieee.double.signWeight = 9223372036854775808 := rfl
  rw [h1] at h
  unfold Ieee.Format.word
  rw [h2]
  cases s
  · simp; omega
  · simp; omega
theorem rung64_near (s : Bool) (m : Nat) (p : Int) : Ieee.double.nearest s m p % 9223372036854775808 ≤ 9218868437227405312 := by
  unfold Ieee.Format.nearest
  split
  · exact rung64_word _ _ (Nat.zero_le _)
  · exact rung64_word _ _ (Nat.min_le_right ..)
theorem wide_rung {c : Nat} (h : isN .f32 c = false) : wide c % 9223372036854775808 ≤ 9218868437227405312 := by
  unfold wide
  rw [h, if_neg (by simp), decode_single]
  have hn : isN .f32 c = (FloatKind.f32.decode c).isNaN := rfl
  rw [decode_single] at hn
  by_cases h1 : c % 2147483648 < 8388608
  · rw [if_pos h1]; exact rung64_near _ _ _
  · rw [if_neg h1] at hn ⊢
    by_cases h2 : c % 2147483648 < 2139095040
    · rw [if_pos h2]; exact rung64_near _ _ _
    · rw [if_neg h2] at hn ⊢
      by_cases h3 : c % 2147483648 = 2139095040
      · rw [if_pos h3]; exact rung64_word _ _ (Nat.le_refl _)
      · rw [if_neg h3] at hn
        rw [h] at hn; cases hn
/-- What the sign of a widened word is. -/
theorem sgn64_cn {c r : Nat} (h : isN .f32 c = false) (hr : cn .f64 r = wide c) : sgn64 r = neg32 c := by
  have h1 : isN .f64 r = false := by
    rcases hn : isN .f64 r
    · rfl
    · rw [cn_of_isN hn] at hr
      have h2 := wide_rung h
      rw [← hr] at h2
      exact absurd h2 (by decide)
  rw [cn_of_not h1] at hr
  rw [hr]; exact sgn64_wide h
/-- The program's way to ask whether two numbers are the same. -/
theorem same_eq {x y : Nat} (hx : x < 4294967296) (hy : y < 4294967296) (nx : isN .f32 x = false) (ny : isN .f32 y = false) : (feq .f32 x y && (neg32 x == neg32 y)) = same x y := by
  unfold same
  rw [cn_of_not nx, cn_of_not ny]
  have key : ∀ c, c < 4294967296 → isN .f32 c = false → isF c = true ∨ c % 2147483648 = 2139095040 := by
    intro c _ hn
    by_cases h2 : c % 2147483648 < 2139095040
    · exact .inl (by simpa [isF] using h2)
    · by_cases h3 : c % 2147483648 = 2139095040
      · exact .inr h3
      · unfold isN at hn
        rw [decode_single, if_neg (by omega), if_neg h2, if_neg h3] at hn
        cases hn
  have inf : ∀ c, c % 2147483648 = 2139095040 → FloatKind.f32.format.read c = .infinity (neg32 c) := by
    intro c hc
    show FloatKind.f32.decode c = _
    rw [decode_single, if_neg (by omega), if_neg (by omega), if_pos hc]; rfl
  have sg : ∀ c, c < 4294967296 → (neg32 c = decide (2147483648 ≤ c)) := by
    intro c hc
    unfold neg32
    rw [Bool.eq_iff_iff]; simp; omega
  rcases key x hx nx with fx | ix <;> rcases key y hy ny with fy | iy
  · rw [feq_val fx fy]
    by_cases h : x = y
    · subst h; simp
    · have : ¬ (val x = val y ∧ neg32 x = neg32 y) := fun ⟨h1, h2⟩ => h (word_of_val hx hy h1 h2)
      rw [Bool.eq_iff_iff]; simp [h]; intro h1 h2; exact this ⟨h1, h2⟩
  · obtain ⟨m, p, e, _⟩ := decode_fin fx
    have e' : FloatKind.f32.format.read x = .number (neg32 x) m p := e
    have hf : feq .f32 x y = false := by
      unfold feq Ieee.Format.order
      rw [e', inf y iy]
      simp only [Ieee.Datum.order]
      cases neg32 y <;> rfl
    rw [hf]
    have : x ≠ y := by rintro rfl; simp only [isF, decide_eq_true_eq] at fx; omega
    simp [this]
  · obtain ⟨m, p, e, _⟩ := decode_fin fy
    have e' : FloatKind.f32.format.read y = .number (neg32 y) m p := e
    have hf : feq .f32 x y = false := by
      unfold feq Ieee.Format.order
      rw [e', inf x ix]
      simp only [Ieee.Datum.order]
      cases neg32 x <;> rfl
    rw [hf]
    have : x ≠ y := by rintro rfl; simp only [isF, decide_eq_true_eq] at fy; omega
    simp [this]
  · have hf : feq .f32 x y = (neg32 x == neg32 y) := by
      unfold feq Ieee.Format.order
      rw [inf x ix, inf y iy]
      simp only [Ieee.Datum.order]
      cases neg32 x <;> cases neg32 y <;> rfl
    rw [hf, sg x hx, sg y hy, Bool.eq_iff_iff]
    simp
    omega
theorem f32bits (x : Nat) (w : World) : (callFunc 124 #[.float .f32 x]).run Try.prog w = .ok (.value (.int .u32 x)) w := by kernel_rfl
set_option maxHeartbeats 400000 in
theorem l01Bits_any (x : Nat) (hx : x < 4294967296) (w : World) : Calls Try.prog 115 #[.float .f32 x] w (RI w (cn .f32 x : Int)) := by
  have ha := feq_cn_self .f32 x
  have hb := f32bits x
  rcases h : isN .f32 x
  · rw [h] at ha
    have H := Lib.hid (cn_of_not h)
    go_enter Try.func115, Try.ntmps115
    go_wp2
    go_ret
    exact ⟨by rw [H.out]; rfl, 0, rfl⟩
  · rw [h] at ha
    have H := Lib.hid (cn_of_isN h)
    go_enter Try.func115, Try.ntmps115
    go_wp2
    go_ret
    exact ⟨by rw [H.out]; rfl, 0, rfl⟩
set_option maxHeartbeats 400000 in
theorem l01Same_any (x y : Nat) (hx : x < 4294967296) (hy : y < 4294967296) (w : World) : Calls Try.prog 96 #[.float .f32 x, .float .f32 y] w (RB w (same x y)) := by
  have hs : Hid ((((cn .f32 x : Nat) : Int) == ((cn .f32 y : Nat) : Int)) = same x y) := by show _ = _; rw [Bool.eq_iff_iff]; simp [same]; exact Int.ofNat_inj
  have h1 := Lib.hid (fun w => l01Bits_any x hx w)
  have h2 := Lib.hid (fun w => l01Bits_any y hy w)
  go_enter Try.func96, Try.ntmps96
  go_wp2_with fail
  refine (h1.out _).mono ?_
  rintro e w1 ⟨rfl, n, rfl⟩
  go_wp2_with fail
  refine (h2.out _).mono ?_
  rintro e w1 ⟨rfl, n2, rfl⟩
  go_wp2_with fail
  go_ret
  exact ⟨by rw [← hs.out]; rfl, _, rfl⟩
theorem f64bits (x : Nat) (w : World) : (callFunc 120 #[.float .f64 x]).run Try.prog w = .ok (.value (.int .u64 x)) w := by kernel_rfl
set_option maxHeartbeats 400000 in
theorem Signbit_any (x : Nat) (w : World) : Calls Try.prog 105 #[.float .f64 x] w (RB w (sgn64 x)) := by
  have hb := f64bits x
  have hs : Hid (decide (wrap64 (x : Int) < 0) = sgn64 x) := by show _ = _; unfold wrap64 sgn64; rw [Bool.eq_iff_iff]; simp; omega
  go_enter Try.func105, Try.ntmps105
  go_wp2
  go_ret
  exact ⟨by rw [← hs.out]; rfl, 0, rfl⟩
set_option maxHeartbeats 1000000 in
theorem SameNumber_any (x y : Nat) (hx : x < 4294967296) (hy : y < 4294967296) (w : World) : Calls Try.prog 59 #[.float .f32 x, .float .f32 y] w (RB w (same x y)) := by
  have ha := feq_cn_self .f32 x
  have hb := feq_cn_self .f32 y
  rcases h : isN .f32 x
  · rcases h2 : isN .f32 y
    · have Hs := Lib.hid (same_eq hx hy h h2)
      have Hx := Lib.hid (sgn64_wide h)
      have Hy := Lib.hid (sgn64_wide h2)
      have Cx := Lib.hid (cn_of_not h)
      have Cy := Lib.hid (cn_of_not h2)
      rw [h] at ha
      rw [h2] at hb
      rcases h3 : feq .f32 (cn .f32 x) (cn .f32 y)
      · go_enter Try.func59, Try.ntmps59
        go_wp2_with (first | (with_reducible refine at_list ?_; refine wpList_fop rfl rfl rfl rfl rfl ?_; intro r n hr0; have hr := hr0 _ _ (by first | with_reducible assumption | exact rfl) (by first | with_reducible assumption | exact rfl); clear hr0) | (with_reducible refine at_list ?_; refine wpList_neg rfl rfl rfl ?_; intro r hr0; have hr := hr0 _ (by first | with_reducible assumption | exact rfl); clear hr0) | (with_reducible refine at_list ?_; refine wpList_fop_g rfl rfl rfl rfl rfl ?_; intro r n hr0; have hr := hr0 _ _ (by first | with_reducible assumption | exact rfl) (by first | with_reducible assumption | exact rfl); clear hr0) | (with_reducible refine at_list ?_; refine wpList_wide_g rfl rfl Try.underlying22 Try.underlying40 rfl ?_; intro r n hr0; have hr := hr0 _ (by first | with_reducible assumption | exact rfl); clear hr0) | (with_reducible refine at_list ?_; refine wpList_wide rfl rfl rfl Try.underlying22 Try.underlying40 ?_; intro r n hr0; have hr := hr0 _ (by first | with_reducible assumption | exact rfl); clear hr0) | (go_at_call 105; refine (Signbit_any _ _).mono ?_; rintro e w' ⟨rfl, n, rfl⟩))
        go_ret
        exact ⟨by rw [← Hs.out, Cx.out, Cy.out] at *; simp_all, by first | exact ⟨_, rfl⟩ | exact ⟨0, rfl⟩⟩
      · go_enter Try.func59, Try.ntmps59
        go_wp2_with (first | (with_reducible refine at_list ?_; refine wpList_fop rfl rfl rfl rfl rfl ?_; intro r n hr0; have hr := hr0 _ _ (by first | with_reducible assumption | exact rfl) (by first | with_reducible assumption | exact rfl); clear hr0) | (with_reducible refine at_list ?_; refine wpList_neg rfl rfl rfl ?_; intro r hr0; have hr := hr0 _ (by first | with_reducible assumption | exact rfl); clear hr0) | (with_reducible refine at_list ?_; refine wpList_fop_g rfl rfl rfl rfl rfl ?_; intro r n hr0; have hr := hr0 _ _ (by first | with_reducible assumption | exact rfl) (by first | with_reducible assumption | exact rfl); clear hr0) | (with_reducible refine at_list ?_; refine wpList_wide_g rfl rfl Try.underlying22 Try.underlying40 rfl ?_; intro r n hr0; have hr := hr0 _ (by first | with_reducible assumption | exact rfl); clear hr0) | (with_reducible refine at_list ?_; refine wpList_wide rfl rfl rfl Try.underlying22 Try.underlying40 ?_; intro r n hr0; have hr := hr0 _ (by first | with_reducible assumption | exact rfl); clear hr0) | (go_at_call 105; refine (Signbit_any _ _).mono ?_; rintro e w' ⟨rfl, n, rfl⟩))
        go_ret
        refine ⟨?_, by first | exact ⟨_, rfl⟩ | exact ⟨0, rfl⟩⟩
        have e1 := sgn64_cn h (by rw [← Cx.out]; exact ‹cn .f64 _ = wide (cn .f32 x)›)
        have e2 := sgn64_cn h2 (by rw [← Cy.out]; exact ‹cn .f64 _ = wide (cn .f32 y)›)
        rw [Cx.out, Cy.out] at h3
        rw [← Hs.out, h3]
        simp only [e1, e2, Bool.true_and]
        rfl
    · have H : Hid (same x y = false) := by
        show same x y = false
        unfold same; rw [cn_of_not h, cn_of_isN h2]
        simp; rintro rfl; rw [isN_qn] at h; cases h
      rw [h] at ha
      rw [h2] at hb
      go_enter Try.func59, Try.ntmps59
      go_wp2_with (first | (with_reducible refine at_list ?_; refine wpList_fop rfl rfl rfl rfl rfl ?_; intro r n hr0; have hr := hr0 _ _ (by first | with_reducible assumption | exact rfl) (by first | with_reducible assumption | exact rfl); clear hr0) | (with_reducible refine at_list ?_; refine wpList_neg rfl rfl rfl ?_; intro r hr0; have hr := hr0 _ (by first | with_reducible assumption | exact rfl); clear hr0) | (with_reducible refine at_list ?_; refine wpList_fop_g rfl rfl rfl rfl rfl ?_; intro r n hr0; have hr := hr0 _ _ (by first | with_reducible assumption | exact rfl) (by first | with_reducible assumption | exact rfl); clear hr0) | (with_reducible refine at_list ?_; refine wpList_wide_g rfl rfl Try.underlying22 Try.underlying40 rfl ?_; intro r n hr0; have hr := hr0 _ (by first | with_reducible assumption | exact rfl); clear hr0) | (with_reducible refine at_list ?_; refine wpList_wide rfl rfl rfl Try.underlying22 Try.underlying40 ?_; intro r n hr0; have hr := hr0 _ (by first | with_reducible assumption | exact rfl); clear hr0) | (go_at_call 105; refine (Signbit_any _ _).mono ?_; rintro e w' ⟨rfl, n, rfl⟩))
      go_ret
      exact ⟨by rw [H.out]; rfl, by first | exact ⟨_, rfl⟩ | exact ⟨0, rfl⟩⟩
  · rcases h2 : isN .f32 y
    · have H : Hid (same x y = false) := by
        show same x y = false
        unfold same; rw [cn_of_not h2, cn_of_isN h]
        simp; rintro rfl; rw [isN_qn] at h2; cases h2
      rw [h] at ha
      rw [h2] at hb
      go_enter Try.func59, Try.ntmps59
      go_wp2_with (first | (with_reducible refine at_list ?_; refine wpList_fop rfl rfl rfl rfl rfl ?_; intro r n hr0; have hr := hr0 _ _ (by first | with_reducible assumption | exact rfl) (by first | with_reducible assumption | exact rfl); clear hr0) | (with_reducible refine at_list ?_; refine wpList_neg rfl rfl rfl ?_; intro r hr0; have hr := hr0 _ (by first | with_reducible assumption | exact rfl); clear hr0) | (with_reducible refine at_list ?_; refine wpList_fop_g rfl rfl rfl rfl rfl ?_; intro r n hr0; have hr := hr0 _ _ (by first | with_reducible assumption | exact rfl) (by first | with_reducible assumption | exact rfl); clear hr0) | (with_reducible refine at_list ?_; refine wpList_wide_g rfl rfl Try.underlying22 Try.underlying40 rfl ?_; intro r n hr0; have hr := hr0 _ (by first | with_reducible assumption | exact rfl); clear hr0) | (with_reducible refine at_list ?_; refine wpList_wide rfl rfl rfl Try.underlying22 Try.underlying40 ?_; intro r n hr0; have hr := hr0 _ (by first | with_reducible assumption | exact rfl); clear hr0) | (go_at_call 105; refine (Signbit_any _ _).mono ?_; rintro e w' ⟨rfl, n, rfl⟩))
      go_ret
      exact ⟨by rw [H.out]; rfl, by first | exact ⟨_, rfl⟩ | exact ⟨0, rfl⟩⟩
    · have H : Hid (same x y = true) := by
        show same x y = true
        unfold same; rw [cn_of_isN h2, cn_of_isN h]
        simp
      rw [h] at ha
      rw [h2] at hb
      go_enter Try.func59, Try.ntmps59
      go_wp2_with (first | (with_reducible refine at_list ?_; refine wpList_fop rfl rfl rfl rfl rfl ?_; intro r n hr0; have hr := hr0 _ _ (by first | with_reducible assumption | exact rfl) (by first | with_reducible assumption | exact rfl); clear hr0) | (with_reducible refine at_list ?_; refine wpList_neg rfl rfl rfl ?_; intro r hr0; have hr := hr0 _ (by first | with_reducible assumption | exact rfl); clear hr0) | (with_reducible refine at_list ?_; refine wpList_fop_g rfl rfl rfl rfl rfl ?_; intro r n hr0; have hr := hr0 _ _ (by first | with_reducible assumption | exact rfl) (by first | with_reducible assumption | exact rfl); clear hr0) | (with_reducible refine at_list ?_; refine wpList_wide_g rfl rfl Try.underlying22 Try.underlying40 rfl ?_; intro r n hr0; have hr := hr0 _ (by first | with_reducible assumption | exact rfl); clear hr0) | (with_reducible refine at_list ?_; refine wpList_wide rfl rfl rfl Try.underlying22 Try.underlying40 ?_; intro r n hr0; have hr := hr0 _ (by first | with_reducible assumption | exact rfl); clear hr0) | (go_at_call 105; refine (Signbit_any _ _).mono ?_; rintro e w' ⟨rfl, n, rfl⟩))
      go_ret
      exact ⟨by rw [H.out]; rfl, by first | exact ⟨_, rfl⟩ | exact ⟨0, rfl⟩⟩
/-- Are two lists of words the same, one by one? -/
def eqL (p : Nat → Nat → Bool) (xs ys : List Nat) : Bool := (xs.length == ys.length) && (List.range xs.length).all fun j => p (xs.getD j 0) (ys.getD j 0)
set_option maxHeartbeats 1000000 in
theorem EqualFunc_any (g : Nat) (p : Nat → Nat → Bool) (xs ys : List Nat) (v u : Value) (w : World) (hs : FS w v xs) (ht : FS w u ys) (hcf : ∀ x y w', (callFunc g #[.float .f32 x, .float .f32 y]).run Try.prog w' = .ok (.enter g #[.float .f32 x, .float .f32 y]) w')
    (hg : ∀ j, j < xs.length → j < ys.length → ∀ m, Calls Try.prog g #[.float .f32 (xs.getD j 0), .float .f32 (ys.getD j 0)] (w.drewN m) (RB (w.drewN m) (p (xs.getD j 0) (ys.getD j 0)))) :
    Calls Try.prog 106 #[v, u, .func (.func g) #[] #[]] w (RB w (eqL p xs ys)) := by
  have HG := Lib.hid hg; clear hg
  obtain ⟨pv, cv, rfl, hv1, hv2, hv3⟩ := FS_view hs
  obtain ⟨pu, cu, rfl, hu1, hu2, hu3⟩ := FS_view ht
  have HV := Lib.hid hv3; clear hv3
  have HU := Lib.hid hu3; clear hu3
  clear hs ht
  by_cases hl : xs.length = ys.length
  · have Hl := Lib.hid hl
    rw [hl] at hv2 ⊢
    clear hl
    go_enter Try.func106, Try.ntmps106
    go_wp2
    go_loopw [17] (fun t wr => ∃ k m : Nat, k ≤ ys.length ∧ t = .int .i64 k ∧ wr = w.drewN m ∧ Hid (∀ j, j < k → p (xs.getD j 0) (ys.getD j 0) = true)) (fun t _ => ys.length - (intOf t).toNat)
    case atStart => exact ⟨0, 0, Nat.zero_le _, rfl, rfl, fun j hj => by omega⟩
    case round =>
      obtain ⟨k, m, hk, rfl, rfl, hp⟩ := hrel
      by_cases hlt2 : k < ys.length
      · have hlt : k < xs.length := by rw [Hl.out]; exact hlt2
        obtain ⟨b1, o1, rfl, hc1⟩ := HV.out k hlt
        obtain ⟨b2, o2, rfl, hc2⟩ := HU.out k hlt2
        have Hlt := Lib.hid hlt; clear hlt
        generalize hx : xs.getD k 0 = x at hc1
        generalize hy : ys.getD k 0 = y at hc2
        have Hx := Lib.hid hx; clear hx
        have Hy := Lib.hid hy; clear hy
        rcases hb : p x y
        · go_wp2_with fail
          refine (Hx.out ▸ Hy.out ▸ HG.out k Hlt.out hlt2 m).mono ?_
          rintro e w' ⟨rfl, n, rfl⟩
          go_wp2_with fail
          go_ret
          exact ⟨by
            have : eqL p xs ys = false := by
              unfold eqL
              rw [Bool.and_eq_false_iff]
              right
              rw [List.all_eq_false]
              exact ⟨k, List.mem_range.2 Hlt.out, by rw [Hx.out, Hy.out, hb]; simp⟩
            rw [this]; rfl, m + n, by simp⟩
        · go_wp2_with fail
          refine (Hx.out ▸ Hy.out ▸ HG.out k Hlt.out hlt2 m).mono ?_
          rintro e w' ⟨rfl, n, rfl⟩
          go_wp2_with fail
          go_roundw
          case rel => exact ⟨k + 1, m + n, by omega, by go_num, by simp, fun j hj => by rcases Nat.lt_succ_iff_lt_or_eq.1 hj with h | rfl; exact hp.out j h; rw [Hx.out, Hy.out]; exact hb⟩
          case measure => simp [intOf]; omega
      · go_wp2
        go_ret
        exact ⟨by
          have : eqL p xs ys = true := by
            unfold eqL
            rw [Bool.and_eq_true]
            refine ⟨by simpa using Hl.out, ?_⟩
            rw [List.all_eq_true]
            exact fun j hj => hp.out j (by have := List.mem_range.1 hj; rw [Hl.out] at this; omega)
          rw [this]; rfl, m, rfl⟩
  · go_enter Try.func106, Try.ntmps106
    go_wp2
    go_ret
    exact ⟨by simp [eqL, hl], 0, rfl⟩
end Go.Proofs.Ytjeeflldbhajiaa
set_option linter.unusedSimpArgs false
set_option linter.unusedVariables false
set_option linter.unusedSectionVars false
namespace Go.Proofs.Ytjeeflldbhajiaa
open Go Go.RowKit
open Go.ChangeShapes Go.WideShapes Go.ChangeAt Go.RowKit Go.Joins
def St.nums (s : St) : List Nat := [s.a, s.b, s.c, s.d, s.p, s.l]
def St.sm (s t : St) : Bool := same s.a t.a && (same s.b t.b && (same s.c t.c && (same s.d t.d && (same s.p t.p && same s.l t.l))))
def St.lt (s : St) : Prop := s.a < 4294967296 ∧ s.b < 4294967296 ∧ s.c < 4294967296 ∧ s.d < 4294967296 ∧ s.p < 4294967296 ∧ s.l < 4294967296
theorem St.sm_nums (s t : St) : eqL Go.Proofs.Ytjeeflldbhajiaa.same s.nums t.nums = s.sm t := by
  simp [eqL, St.nums, St.sm, List.range, List.range.loop]
theorem St.nums_lt {s : St} (h : s.lt) (j : Nat) : s.nums.getD j 0 < 4294967296 := by
  obtain ⟨h0, h1, h2, h3, h4, h5⟩ := h
  rcases j with _ | _ | _ | _ | _ | _ | j <;> simp [St.nums, *]
set_option maxHeartbeats 400000 in
theorem sameNumbers_any (xs ys : List Nat) (v u : Value) (w : World) (hs : FS w v xs) (ht : FS w u ys) (hx : ∀ j, xs.getD j 0 < 4294967296) (hy : ∀ j, ys.getD j 0 < 4294967296) : Calls Try.prog 60 #[v, u] w (RB w (eqL same xs ys)) := by
  have HS := Lib.hid hs
  have HT := Lib.hid ht
  clear hs ht
  go_enter Try.func60, Try.ntmps60
  go_wp2_with fail
  refine (EqualFunc_any 59 same xs ys v u _ HS.out HT.out (fun x y w' => by kernel_rfl) (fun j h1 h2 m => SameNumber_any _ _ (hx j) (hy j) _)).mono ?_
  rintro e w' ⟨rfl, n, rfl⟩
  go_wp2_with fail
  go_ret
  exact ⟨rfl, _, rfl⟩
set_option maxHeartbeats 1000000 in
theorem numbersOf_any (s : St) (w : World) : Calls Try.prog 104 #[.agg #[.float .f32 s.a, .float .f32 s.b, .float .f32 s.c, .float .f32 s.d, .float .f32 s.p, .float .f32 s.l]] w (fun e w' => ∃ v, e = .returned v ∧ Below w.heap.size w w' ∧ FS w' v s.nums) := by
  go_enter Try.func104, Try.ntmps104
  go_wp2
  go_ret
  refine ⟨_, rfl, by (repeat (first | (with_reducible exact Below.refl _ _) | (with_reducible assumption) | (with_reducible refine below_then ?_ (by assumption)) | (with_reducible refine Below.trans ?_ (by assumption)) | (with_reducible refine below_drewN ?_ _) | (with_reducible apply Below.drew) | (with_reducible refine below_alloc ?_ _) | refine Below.setCell ?_ (by first | (simp; done) | (simp; omega)) _)), FS_of (n := 6) (c := 6) rfl (by omega) (by omega) ?_⟩
  intro i hi
  rcases (show i = 0 ∨ i = 1 ∨ i = 2 ∨ i = 3 ∨ i = 4 ∨ i = 5 by omega) with rfl | rfl | rfl | rfl | rfl | rfl <;> go_simp <;> rfl
/-- A slice of these words. -/
def Clm.fs (xs : List Nat) : Clm := ⟨1, fun _ _ => True, fun _ v w => FS w v xs, fun _ => ⟨undef, trivial⟩, fun _ _ _ _ h hb => h.later hb, fun h => nomatch h⟩
theorem RB_BV {w : World} {b : Bool} {e : Ending} {w' : World} (h : RB w b e w') : BV w (.bool b) e w' := by
  obtain ⟨rfl, n, rfl⟩ := h
  exact ⟨rfl, below_drewN (Below.refl _ _) _⟩
set_option maxHeartbeats 1000000 in
theorem implSameStuff_any (s t : St) (hx : s.lt) (hy : t.lt) (w : World) : Calls Try.prog 58 #[.agg #[.float .f32 s.a, .float .f32 s.b, .float .f32 s.c, .float .f32 s.d, .float .f32 s.p, .float .f32 s.l], .agg #[.float .f32 t.a, .float .f32 t.b, .float .f32 t.c, .float .f32 t.d, .float .f32 t.p, .float .f32 t.l]] w (BV w (.bool (s.sm t))) := by
  have HX := Lib.hid (St.nums_lt hx)
  have HY := Lib.hid (St.nums_lt hy)
  clear hx hy
  go_enter Try.func58, Try.ntmps58
  go_wp2_with (first | (with_reducible refine at_list ?_; refine wpList_fop rfl rfl rfl rfl rfl ?_; intro r n hr0; have hr := hr0 _ _ (by first | with_reducible assumption | exact rfl) (by first | with_reducible assumption | exact rfl); clear hr0) | (with_reducible refine at_list ?_; refine wpList_neg rfl rfl rfl ?_; intro r hr0; have hr := hr0 _ (by first | with_reducible assumption | exact rfl); clear hr0) | (with_reducible refine at_list ?_; refine wpList_fop_g rfl rfl rfl rfl rfl ?_; intro r n hr0; have hr := hr0 _ _ (by first | with_reducible assumption | exact rfl) (by first | with_reducible assumption | exact rfl); clear hr0) | (with_reducible refine at_list ?_; refine wpList_wide_g rfl rfl Try.underlying22 Try.underlying40 rfl ?_; intro r n hr0; have hr := hr0 _ (by first | with_reducible assumption | exact rfl); clear hr0) | (with_reducible refine at_list ?_; refine wpList_wide rfl rfl rfl Try.underlying22 Try.underlying40 ?_; intro r n hr0; have hr := hr0 _ (by first | with_reducible assumption | exact rfl); clear hr0))
  apply wp_region_plan
  apply wpC_val (.agg #[.float .f32 s.a, .float .f32 s.b, .float .f32 s.c, .float .f32 s.d, .float .f32 s.p, .float .f32 s.l])
  case hw => exact rfl
  case h1 =>
    intro w' hb hk
    have hk_0 : w'.cell? ⟨w.heap.size, 0, none⟩ = some (.float .f32 s.a) := cell_later hb (by go_simp)
    have hk_1 : w'.cell? ⟨w.heap.size, 1, none⟩ = some (.float .f32 s.b) := cell_later hb (by go_simp)
    have hk_2 : w'.cell? ⟨w.heap.size, 2, none⟩ = some (.float .f32 s.c) := cell_later hb (by go_simp)
    have hk_3 : w'.cell? ⟨w.heap.size, 3, none⟩ = some (.float .f32 s.d) := cell_later hb (by go_simp)
    have hk_4 : w'.cell? ⟨w.heap.size, 4, none⟩ = some (.float .f32 s.p) := cell_later hb (by go_simp)
    have hk_5 : w'.cell? ⟨w.heap.size, 5, none⟩ = some (.float .f32 s.l) := cell_later hb (by go_simp)
    have hk_6 : w'.cell? ⟨w.heap.size + 1, 0, none⟩ = some (.float .f32 t.a) := cell_later hb (by go_simp)
    have hk_7 : w'.cell? ⟨w.heap.size + 1, 1, none⟩ = some (.float .f32 t.b) := cell_later hb (by go_simp)
    have hk_8 : w'.cell? ⟨w.heap.size + 1, 2, none⟩ = some (.float .f32 t.c) := cell_later hb (by go_simp)
    have hk_9 : w'.cell? ⟨w.heap.size + 1, 3, none⟩ = some (.float .f32 t.d) := cell_later hb (by go_simp)
    have hk_10 : w'.cell? ⟨w.heap.size + 1, 4, none⟩ = some (.float .f32 t.p) := cell_later hb (by go_simp)
    have hk_11 : w'.cell? ⟨w.heap.size + 1, 5, none⟩ = some (.float .f32 t.l) := cell_later hb (by go_simp)
    go_simp
  apply wpC_norm
  case ha => simp only [Act.put, List.setIfInBounds_toArray, List.set_cons_zero, List.set_cons_succ]; exact rfl
  apply wpC_call (Clm.fs s.nums) rfl
  case hw => exact rfl
  case h1 => intro w'; go_simp; exact ⟨rfl, rfl⟩
  case hc => intro w' hb hk; exact (numbersOf_any s w').mono fun e w'' ⟨v, he, hb, hf⟩ => ⟨v, he, hb, trivial, hf⟩
  rintro v1 -
  apply wpC_norm
  case ha => simp only [Act.put, List.setIfInBounds_toArray, List.set_cons_zero, List.set_cons_succ]; exact rfl
  apply wpC_val (.agg #[.float .f32 t.a, .float .f32 t.b, .float .f32 t.c, .float .f32 t.d, .float .f32 t.p, .float .f32 t.l])
  case hw => exact rfl
  case h1 =>
    intro w' hb hk
    have hk_0 : w'.cell? ⟨w.heap.size, 0, none⟩ = some (.float .f32 s.a) := cell_later hb (by go_simp)
    have hk_1 : w'.cell? ⟨w.heap.size, 1, none⟩ = some (.float .f32 s.b) := cell_later hb (by go_simp)
    have hk_2 : w'.cell? ⟨w.heap.size, 2, none⟩ = some (.float .f32 s.c) := cell_later hb (by go_simp)
    have hk_3 : w'.cell? ⟨w.heap.size, 3, none⟩ = some (.float .f32 s.d) := cell_later hb (by go_simp)
    have hk_4 : w'.cell? ⟨w.heap.size, 4, none⟩ = some (.float .f32 s.p) := cell_later hb (by go_simp)
    have hk_5 : w'.cell? ⟨w.heap.size, 5, none⟩ = some (.float .f32 s.l) := cell_later hb (by go_simp)
    have hk_6 : w'.cell? ⟨w.heap.size + 1, 0, none⟩ = some (.float .f32 t.a) := cell_later hb (by go_simp)
    have hk_7 : w'.cell? ⟨w.heap.size + 1, 1, none⟩ = some (.float .f32 t.b) := cell_later hb (by go_simp)
    have hk_8 : w'.cell? ⟨w.heap.size + 1, 2, none⟩ = some (.float .f32 t.c) := cell_later hb (by go_simp)
    have hk_9 : w'.cell? ⟨w.heap.size + 1, 3, none⟩ = some (.float .f32 t.d) := cell_later hb (by go_simp)
    have hk_10 : w'.cell? ⟨w.heap.size + 1, 4, none⟩ = some (.float .f32 t.p) := cell_later hb (by go_simp)
    have hk_11 : w'.cell? ⟨w.heap.size + 1, 5, none⟩ = some (.float .f32 t.l) := cell_later hb (by go_simp)
    go_simp
  apply wpC_norm
  case ha => simp only [Act.put, List.setIfInBounds_toArray, List.set_cons_zero, List.set_cons_succ]; exact rfl
  apply wpC_call (Clm.fs t.nums) rfl
  case hw => exact rfl
  case h1 => intro w'; go_simp; exact ⟨rfl, rfl⟩
  case hc => intro w' hb hk; exact (numbersOf_any t w').mono fun e w'' ⟨v, he, hb, hf⟩ => ⟨v, he, hb, trivial, hf⟩
  rintro v2 -
  apply wpC_norm
  case ha => simp only [Act.put, List.setIfInBounds_toArray, List.set_cons_zero, List.set_cons_succ]; exact rfl
  apply wpC_callB (.bool (s.sm t))
  case hw => exact rfl
  case h1 => intro w'; go_simp; exact ⟨rfl, rfl⟩
  case hc => intro w' hb hk; exact (St.sm_nums s t ▸ (sameNumbers_any s.nums t.nums v1 v2 w' hk.2.2.1 hk.1 HX.out HY.out).mono fun _ _ h => RB_BV h)
  apply wpC_norm
  case ha => simp only [Act.put, List.setIfInBounds_toArray, List.set_cons_zero, List.set_cons_succ]; exact rfl
  apply wpC_det
  case hw => exact rfl
  case hs => intro cs b h; cases h
  case h1 => intro w'; go_simp; exact rfl
  apply wpC_norm
  case ha => simp only [Act.put, List.setIfInBounds_toArray, List.set_cons_zero, List.set_cons_succ]; exact rfl
  refine wpC_nil ?_
  intro w1 hb1 hkk1
  have hk1_0 : w1.cell? ⟨w.heap.size, 0, none⟩ = some (.float .f32 s.a) := cell_later hb1 (by go_simp)
  have hz1_0 : w.heap.size < w1.heap.size := World.block_lt_of_cell? _ _ hk1_0
  have hk1_1 : w1.cell? ⟨w.heap.size, 1, none⟩ = some (.float .f32 s.b) := cell_later hb1 (by go_simp)
  have hk1_2 : w1.cell? ⟨w.heap.size, 2, none⟩ = some (.float .f32 s.c) := cell_later hb1 (by go_simp)
  have hk1_3 : w1.cell? ⟨w.heap.size, 3, none⟩ = some (.float .f32 s.d) := cell_later hb1 (by go_simp)
  have hk1_4 : w1.cell? ⟨w.heap.size, 4, none⟩ = some (.float .f32 s.p) := cell_later hb1 (by go_simp)
  have hk1_5 : w1.cell? ⟨w.heap.size, 5, none⟩ = some (.float .f32 s.l) := cell_later hb1 (by go_simp)
  have hk1_6 : w1.cell? ⟨w.heap.size + 1, 0, none⟩ = some (.float .f32 t.a) := cell_later hb1 (by go_simp)
  have hz1_6 : w.heap.size + 1 < w1.heap.size := World.block_lt_of_cell? _ _ hk1_6
  have hk1_7 : w1.cell? ⟨w.heap.size + 1, 1, none⟩ = some (.float .f32 t.b) := cell_later hb1 (by go_simp)
  have hk1_8 : w1.cell? ⟨w.heap.size + 1, 2, none⟩ = some (.float .f32 t.c) := cell_later hb1 (by go_simp)
  have hk1_9 : w1.cell? ⟨w.heap.size + 1, 3, none⟩ = some (.float .f32 t.d) := cell_later hb1 (by go_simp)
  have hk1_10 : w1.cell? ⟨w.heap.size + 1, 4, none⟩ = some (.float .f32 t.p) := cell_later hb1 (by go_simp)
  have hk1_11 : w1.cell? ⟨w.heap.size + 1, 5, none⟩ = some (.float .f32 t.l) := cell_later hb1 (by go_simp)
  go_wp2_with (first | (with_reducible refine at_list ?_; refine wpList_fop rfl rfl rfl rfl rfl ?_; intro r n hr0; have hr := hr0 _ _ (by first | with_reducible assumption | exact rfl) (by first | with_reducible assumption | exact rfl); clear hr0) | (with_reducible refine at_list ?_; refine wpList_neg rfl rfl rfl ?_; intro r hr0; have hr := hr0 _ (by first | with_reducible assumption | exact rfl); clear hr0) | (with_reducible refine at_list ?_; refine wpList_fop_g rfl rfl rfl rfl rfl ?_; intro r n hr0; have hr := hr0 _ _ (by first | with_reducible assumption | exact rfl) (by first | with_reducible assumption | exact rfl); clear hr0) | (with_reducible refine at_list ?_; refine wpList_wide_g rfl rfl Try.underlying22 Try.underlying40 rfl ?_; intro r n hr0; have hr := hr0 _ (by first | with_reducible assumption | exact rfl); clear hr0) | (with_reducible refine at_list ?_; refine wpList_wide rfl rfl rfl Try.underlying22 Try.underlying40 ?_; intro r n hr0; have hr := hr0 _ (by first | with_reducible assumption | exact rfl); clear hr0))
  go_ret
  exact ⟨rfl, by (repeat (first | (with_reducible exact Below.refl _ _) | (with_reducible assumption) | (with_reducible refine below_then ?_ (by assumption)) | (with_reducible refine Below.trans ?_ (by assumption)) | (with_reducible refine below_drewN ?_ _) | (with_reducible apply Below.drew) | (with_reducible refine below_alloc ?_ _) | refine Below.setCell ?_ (by first | (simp; done) | (simp; omega)) _))⟩
  all_goals first | kernel_rfl | rfl
end Go.Proofs.Ytjeeflldbhajiaa
set_option linter.unusedSimpArgs false
set_option linter.unusedVariables false
set_option linter.unusedSectionVars false
namespace Go.Proofs.Ytjeeflldbhajiaa
open Go Go.RowKit
end Go.Proofs.Ytjeeflldbhajiaa
