/-
  Waves at drawn depths and reaches in the program. No condition but what each contract says.
  As XPlanG; besides: what an operation makes may outlive an operation that turns memory (mode 5: it asks only what always holds, and what is told of it stays true under T, the effect of what turns memory). No condition; nothing of the program is named here.
  Plans of operations that turn memory, of which the last ones need not keep what floating loads ask: they wait for these. No condition; nothing of the program is named here.
  Lists of numbers, turned round in place. No condition but what each contract says.
  Draws that append to the lists of a variable. No condition but what each contract says.
  What the statements draw: a rod of small dyadic numbers. No condition but what each contract says.
  What the statements draw: a rod. No condition but what each contract says.
  Bytes handed in: their lengths, a number chosen by one of them; how they are opened. No condition but what each contract says.
-/
import Derived.Test.YtpnkapdemgieaaaSM10
import Derived.Test.YtpnkapdemgieaaaSM11
import Derived.Test.YtpnkapdemgieaaaSM12
import Derived.Test.YtpnkapdemgieaaaSM13
import Derived.Test.YtpnkapdemgieaaaSM14
import Derived.Test.YtpnkapdemgieaaaSM7
import Derived.Test.YtpnkapdemgieaaaSM3
import Derived.Test.YtpnkapdemgieaaaSM8
import Derived.Deep.Slices
set_option linter.unusedSimpArgs false
set_option linter.unusedVariables false
set_option linter.unusedSectionVars false
namespace Go.Proofs.Ytpnkapdemgieaaa
open Go Go.RowKit
open Go.ChangeShapes Go.WideShapes Go.ChangeAt Go.RowKit Go.Joins
theorem wvG_all {j : Nat} (h : j < 16) : WvG (rch j) := by
  match j, h with
  | 0, _ => exact wvGood_at wvGood_0
  | 1, _ => exact wvGood_at wvGood_1
  | 2, _ => exact wvGood_at wvGood_2
  | 3, _ => exact wvGood_at wvGood_3
  | 4, _ => exact wvGood_at wvGood_4
  | 5, _ => exact wvGood_at wvGood_5
  | 6, _ => exact wvGood_at wvGood_6
  | 7, _ => exact wvGood_at wvGood_7
  | 8, _ => exact wvGood_at wvGood_8
  | 9, _ => exact wvGood_at wvGood_9
  | 10, _ => exact wvGood_at wvGood_10
  | 11, _ => exact wvGood_at wvGood_11
  | 12, _ => exact wvGood_at wvGood_12
  | 13, _ => exact wvGood_at wvGood_13
  | 14, _ => exact wvGood_at wvGood_14
  | 15, _ => exact wvGood_at wvGood_15
  | n + 16, h => omega
theorem dfG_all {j : Nat} (h : j < 16) : DfG (rch j) := dfGood_at (dfGood_all j h)
/-- What one wave's check says. -/
structure WvS (n t X Y L : Nat) : Prop where
  ex : exG n = exV n
  eq : feq .f64 n n = true
  le : fnt .f64 n = true ∧ fv .f64 n ≤ 0
  tame : Tame t
  fx : fnt .f32 X = true
  fy : fnt .f32 Y = true
  fit : fits L = true
  fl : fnt .f32 (narrow L) = true
  one : fgt .f64 (wide (narrow L)) (cn .f64 4607186922399644778) = false
theorem V8n : V .f64 (cn .f64 13844065254536904704) (-8) := ⟨by decide +kernel, by decide +kernel⟩
theorem wvOk_s {n t X Y L : Nat} (h : wvOk n t X Y L = true) : WvS n t X Y L := by
  unfold wvOk at h
  simp only [Bool.and_eq_true, Bool.not_eq_true'] at h
  obtain ⟨⟨⟨⟨⟨⟨⟨⟨⟨⟨h1, h2⟩, h3⟩, h4⟩, h5⟩, h6⟩, h7⟩, h8⟩, h9⟩, h10⟩, h11⟩ := h
  rw [← fnt_fin] at h1 h4 h7 h8 h10
  obtain ⟨⟨a0, a1⟩, b0, b1⟩ := hundred_val
  rw [fgev h1 b0, b1] at h2
  rw [flev h1 Vz.1, Vz.2] at h3
  rw [fgev h4 V8n.1, V8n.2] at h5
  rw [flev h4 Vz.1, Vz.2] at h6
  have h2 := of_decide_eq_true h2
  have h3 := of_decide_eq_true h3
  have h5 := of_decide_eq_true h5
  have h6 := of_decide_eq_true h6
  refine ⟨?_, by rw [feqv h1 h1]; exact decide_eq_true rfl, ⟨h1, h3⟩, ⟨h4, by grind, by grind⟩, h7, h8, h9, h10, h11⟩
  unfold exG
  have f1 : fgt .f64 n (cn .f64 4641240890982006784) = false := by rw [fgtv h1 a0, a1]; exact decide_eq_false (by grind)
  have f2 : flt .f64 n (cn .f64 13864612927836782592) = false := by rw [fltv h1 b0, b1]; exact decide_eq_false (by grind)
  rw [f1, f2]; rfl
theorem swide_lt (x : Nat) : wide x < 18446744073709551616 := by
  unfold wide
  split
  · decide +kernel
  · exact FloatKind.f64.format.write_lt _
theorem wave_yes (d r D R : Nat) (w : World) (hd : cn .f32 d = D) (hr : cn .f32 r = R) (h1 : lst D = true) (h2 : abv R = true) (hw : wvI D R = true) : Calls Try.prog 27 #[.float .f32 d, .float .f32 r] w (BCB w (wvX D R) (wvY D R) true) := by
  have S := wvOk_s hw
  obtain ⟨k, hk⟩ := qtr_of S.tame
  have ek := kQ_of hk
  have q := implWave_yes d r (narrow (phA (wvT D R) k)) (narrow (phB (wvT D R) k)) (wvE D R) w (by rw [hd, hr, h1, h2]; rfl)
    (fun x w hx => by rw [hd, hr] at hx; rw [raw_fnt hx S.tame.1]; exact implPhasor_any _ k w S.tame hk (swide_lt _))
    (fun x w hx => by
      rw [hd, hr] at hx
      have := implExp_g x w (by rw [hx]; exact S.eq) (by rw [hx]; exact fits_exG S.le.1 S.le.2)
      rw [hx, S.ex] at this
      exact this)
  rw [ek] at q
  have hb : wvB (narrow (phA (wvT D R) (kQ (wvT D R)))) (narrow (phB (wvT D R) (kQ (wvT D R)))) (wvE D R) = true := by
    unfold wvB
    rw [Bool.and_eq_true]
    rw [← fnt_fin, ← fnt_fin]
    exact ⟨S.fx, S.fy⟩
  rw [hb, if_pos rfl, if_pos rfl] at q
  exact q
end Go.Proofs.Ytpnkapdemgieaaa
set_option linter.unusedSimpArgs false
set_option linter.unusedVariables false
set_option linter.unusedSectionVars false
namespace Go.Proofs.Ytpnkapdemgieaaa
open Go Go.RowKit
section
variable {P : Program} {ops : Array Oper} {Q : Exit → Act → World → Prop} {F : World → Prop} {T : World → World → Prop}
def nextH (c : Clm) (i : Nat) (k : World → Prop) (ks : List (Nat × (World → Prop))) : List (Nat × (World → Prop)) := match c.mode with | 5 => ks | _ => nextG c i k ks
def nextP (c : Clm) (i : Nat) (k : World → Prop) (ps : List (Nat × (World → Prop))) : List (Nat × (World → Prop)) := match c.mode with | 5 => (i, k) :: ps | _ => ps
def stepH (P : Program) (ops : Array Oper) (F : World → Prop) (T : World → World → Prop) (I : World → Prop) (o : Oper) (g : GC) (ks ps : List (Nat × (World → Prop))) (a : Act) : Prop :=
  (Region.wanted o (yielded ops a.tmps) = true ∧ (g.c.mode = 0 ∨ g.c.mode = 1 ∨ g.c.mode = 3 ∨ g.c.mode = 4 ∨ g.c.mode = 5) ∧
    (g.c.mode = 0 → ∀ w, uponC P (fun u w' => (∃ n, w' = w.drewN n) ∧ g.c.S (o.op.operands.toList.map a.eval) u) ((execOp a.eval o).run P w)) ∧
    (g.c.mode = 4 → (∀ x v w, g.c.K x v w) ∧ ∀ w, F w → uponC P (fun u w' => Below w.heap.size w w' ∧ g.c.S (o.op.operands.toList.map a.eval) u) ((execOp a.eval o).run P w)) ∧
    (g.c.mode = 1 → ∀ w, I w → depK o ks w → depK o ps w → uponC P (fun u w' => Below w.heap.size w w' ∧ g.c.S (o.op.operands.toList.map a.eval) u ∧ g.c.K (oargs ops o a) u w') ((execOp a.eval o).run P w)) ∧
    (g.c.mode = 3 → ∀ w, I w → depK o ks w → depK o ps w → uponC P (fun u w' => (g.I w' ∧ T w w') ∧ g.c.S (o.op.operands.toList.map a.eval) u ∧ g.c.K (oargs ops o a) u w') ((execOp a.eval o).run P w)) ∧
    (g.c.mode = 5 → (∀ x v w w', g.c.K x v w → T w w' → g.c.K x v w') ∧ ∀ w, F w → depK o ps w → uponC P (fun u w' => Below w.heap.size w w' ∧ g.c.S (o.op.operands.toList.map a.eval) u ∧ g.c.K (oargs ops o a) u w') ((execOp a.eval o).run P w))) ∨
  (Region.wanted o (yielded ops a.tmps) = false ∧ g.c.mode = 0 ∧ g.c.S (o.op.operands.toList.map a.eval) undef)
/-- The walk in the order of the text. -/
def wpH (P : Program) (ops : Array Oper) (Q : Exit → Act → World → Prop) (F : World → Prop) (T : World → World → Prop) : (World → Prop) → List Oper → List GC → Nat → List (Nat × (World → Prop)) → List (Nat × (World → Prop)) → Act → Prop
  | I, [], [], _, ks, ps, a => ∀ w, I w → allK ks w → allK ps w → Q .normal a w
  | I, o :: l, g :: cs, i, ks, ps, a => stepH P ops F T I o g ks ps a ∧ ∀ v, g.c.S (o.op.operands.toList.map a.eval) v → wpH P ops Q F T (invG I g) l cs (i + 1) (nextH g.c i (g.c.K (oargs ops o a) v) ks) (nextP g.c i (g.c.K (oargs ops o a) v) ps) (a.put o.dst v)
  | _, _, _, _, _, _, _ => False
theorem Iat_floatH {I F : World → Prop} (hI : ∀ w, I w → F w) : ∀ (cs : List GC) (p : Nat) (w : World), (∀ j g, j < p → cs[j]? = some g → g.c.mode = 3 → ∀ w, g.I w → F w) → Iat I cs p w → F w
  | cs, 0, w, _, h => by rw [Iat_zero] at h; exact hI w h
  | [], j + 1, w, _, h => hI w h
  | g :: cs, j + 1, w, hg, h => by
    refine Iat_floatH (I := invG I g) (fun w h => ?_) cs j w (fun k g' hk hg' => hg (k + 1) g' (by omega) (by simpa using hg')) h
    by_cases hm : g.c.mode = 3
    · rw [invG_eq hm] at h; exact hg 0 g (by omega) (by simp) hm w h
    · rw [invG_ne hm] at h; exact hI w h
/-- The claims that outlive what turns memory. -/
def standsP (ops : Array Oper) (V : Nat → Value) (l : List Oper) (cs : List GC) (i : Nat) (a : Act) (w : World) (n : Nat) (X : Nat → Prop) : Prop :=
  ∀ (k : Nat) (o : Oper) (c : GC), k < n → l[k]? = some o → cs[k]? = some c → X (i + k) → c.c.mode = 5 → c.c.K (opx ops V l i a k o) (V (i + k)) w
theorem standsP_tail {V : Nat → Value} {o : Oper} {l : List Oper} {c : GC} {cs : List GC} {i : Nat} {a : Act} {w : World} {n : Nat} {X : Nat → Prop} (h : standsP ops V (o :: l) (c :: cs) i a w (n + 1) X) : standsP ops V l cs (i + 1) (a.put o.dst (V i)) w n X := by
  intro k o' c' hk ho hc hX hm
  have := h (k + 1) o' c' (by omega) (by simpa using ho) (by simpa using hc) (by simpa [Nat.add_assoc, Nat.add_comm 1 k] using hX) hm
  rw [opx_succ] at this
  simpa [Nat.add_assoc, Nat.add_comm 1 k] using this
theorem nextH_dep {o : Oper} {c : Clm} {i : Nat} {k : World → Prop} {ks : List (Nat × (World → Prop))} {w : World} (h1 : depB o i = true → k w) (h2 : c.mode ≠ 3 → depK o ks w) : depK o (nextH c i k ks) w := by
  unfold nextH
  split
  · exact h2 (by omega)
  · exact nextG_dep h1 h2
theorem nextH_all {c : Clm} {i : Nat} {k : World → Prop} {ks : List (Nat × (World → Prop))} {w : World} (h1 : k w) (h2 : c.mode ≠ 3 → allK ks w) : allK (nextH c i k ks) w := by
  unfold nextH
  split
  · exact h2 (by omega)
  · exact nextG_all h1 h2
theorem nextP_dep {o : Oper} {c : Clm} {i : Nat} {k : World → Prop} {ps : List (Nat × (World → Prop))} {w : World} (h1 : c.mode = 5 → depB o i = true → k w) (h2 : depK o ps w) : depK o (nextP c i k ps) w := by
  unfold nextP
  split
  · rename_i hm
    refine ⟨?_, h2⟩
    cases hd : depB o i with
    | false => trivial
    | true => exact h1 hm hd
  · exact h2
theorem nextP_all {c : Clm} {i : Nat} {k : World → Prop} {ps : List (Nat × (World → Prop))} {w : World} (h1 : c.mode = 5 → k w) (h2 : allK ps w) : allK (nextP c i k ps) w := by
  unfold nextP
  split
  · rename_i hm
    exact ⟨h1 hm, h2⟩
  · exact h2
/-- What the walk in the order of the text has told of each operation. -/
theorem wpH_unroll {V : Nat → Value} : ∀ (I : World → Prop) (l : List Oper) (cs : List GC) (i : Nat) (ks ps : List (Nat × (World → Prop))) (a : Act), wpH P ops Q F T I l cs i ks ps a → validG V l cs i a →
    (∀ j o, l[j]? = some o → ∃ c ks' ps', cs[j]? = some c ∧ stepH P ops F T (Iat I cs j) o c ks' ps' (puts V (fun k => decide (k < i + j)) l i a) ∧ (∀ w, standsG ops V l cs i a w j (fun k => depB o k = true) → (noBarG cs j → depK o ks w) → depK o ks' w) ∧ ∀ w, standsP ops V l cs i a w j (fun k => depB o k = true) → depK o ps w → depK o ps' w) ∧
    (∀ w, Iat I cs cs.length w → standsG ops V l cs i a w cs.length (fun _ => True) → (noBarG cs cs.length → allK ks w) → standsP ops V l cs i a w cs.length (fun _ => True) → allK ps w → Q .normal (puts V (fun _ => true) l i a) w)
  | I, [], [], i, ks, ps, a, h, hV => ⟨fun j o hj => by simp at hj, fun w hb _ hk _ hp => h w hb (hk fun b cb h1 => by simp at h1) hp⟩
  | I, [], c :: cs, i, ks, ps, a, h, hV => (by unfold wpH at h; exact h.elim)
  | I, o :: l, [], i, ks, ps, a, h, hV => (by unfold wpH at h; exact h.elim)
  | I, o :: l, c :: cs, i, ks, ps, a, h, hV => by
    simp only [wpH] at h
    obtain ⟨h1, h2⟩ := h
    have hS := hV 0 o c (by simp) (by simp)
    rw [opn_zero] at hS
    have ih := wpH_unroll (invG I c) l cs (i + 1) _ _ (a.put o.dst (V i)) (h2 _ hS) (fun k o' c' ho hk => by
      have := hV (k + 1) o' c' (by simpa using ho) (by simpa using hk)
      rw [opn_succ] at this
      simpa [Nat.add_assoc, Nat.add_comm 1 k] using this)
    have bars : ∀ n, noBarG cs n → ∀ (b : Nat) (cb : GC), 0 < b → b < n + 1 → (c :: cs)[b]? = some cb → cb.c.mode ≠ 3 := fun n hn b cb h1 h2 h3 => by
      obtain ⟨b, rfl⟩ : ∃ b', b = b' + 1 := ⟨b - 1, by omega⟩
      exact hn b cb (by omega) (by simpa using h3)
    have bars' : ∀ n, noBarG cs n → c.c.mode ≠ 3 → noBarG (c :: cs) (n + 1) := fun n hn hc b cb h2 h3 => by
      cases b with
      | zero => simp at h3; subst h3; exact hc
      | succ b => exact hn b cb (by omega) (by simpa using h3)
    refine ⟨fun j o' hj => ?_, fun w hb hk hks hkp hps => ?_⟩
    · cases j with
      | zero =>
        simp only [List.getElem?_cons_zero, Option.some.injEq] at hj
        subst hj
        refine ⟨c, ks, ps, by simp, ?_, fun w _ hk => hk fun b cb h1 => by omega, fun w _ hk => hk⟩
        rw [puts_none (o :: l) i a fun k hk => by simpa using hk]
        exact h1
      | succ j =>
        simp only [List.getElem?_cons_succ] at hj
        have e : i + (j + 1) = i + 1 + j := by omega
        have ep : puts V (fun k => decide (k < i + (j + 1))) (o :: l) i a = puts V (fun k => decide (k < i + 1 + j)) l (i + 1) (a.put o.dst (V i)) := by
          simp only [puts, e, show i < i + 1 + j by omega, decide_true, if_true]
        obtain ⟨c', ks', ps', g1, g2, g3, g4⟩ := ih.1 j o' hj
        refine ⟨c', ks', ps', by simpa using g1, by rw [ep]; exact g2, fun w hw hk => g3 w (standsG_tail hw) fun hn => ?_, fun w hw hk => g4 w (standsP_tail hw) ?_⟩
        rotate_left
        · refine nextP_dep (fun hm hd => ?_) hk
          have := hw 0 o c (by omega) (by simp) (by simp) (by simpa using hd) hm
          rw [opx_zero] at this
          exact this
        refine nextH_dep (fun hd => ?_) fun hc => hk (bars' _ hn hc)
        have := hw 0 o c (by omega) (by simp) (by simp) (by simpa using hd) (bars _ hn)
        rw [opx_zero] at this
        exact this
    · simp only [puts, if_true]
      refine ih.2 w hb (standsG_tail hk) (fun hn => ?_) (standsP_tail hkp) ?_
      rotate_left
      · refine nextP_all (fun hm => ?_) hps
        have := hkp 0 o c (by simp) (by simp) (by simp) trivial hm
        rw [opx_zero] at this
        exact this
      refine nextH_all ?_ fun hc => hks (bars' _ hn hc)
      have := hk 0 o c (by simp) (by simp) (by simp) trivial (bars _ hn)
      rw [opx_zero] at this
      exact this
/-- What turns memory stands apart from all that asks the world. -/
def barH (ops : Array Oper) (ms : List Nat) : Bool := (List.range ops.size).all fun i => !(ms[i]? == some 3) || (List.range ops.size).all fun j => j == i || (ms[j]? == some 0) || (ms[j]? == some 4) || (ms[j]? == some 5) ||
  (decide (j < i) && reachB ops 6 i j) || (decide (i < j) && reachB ops 6 j i)
theorem barH_spec {cs : List GC} (h : barH ops (cs.map (·.c.mode)) = true) {i j : Nat} {oi oj : Oper} {ci cj : GC} (hi : ops[i]? = some oi) (hj : ops[j]? = some oj) (hci : cs[i]? = some ci) (hcj : cs[j]? = some cj) (h2 : ci.c.mode = 3) (h0 : cj.c.mode ≠ 0) (h4 : cj.c.mode ≠ 4) (h5 : cj.c.mode ≠ 5) (hne : j ≠ i) :
    (j < i ∧ reachB ops 6 i j = true) ∨ (i < j ∧ reachB ops 6 j i = true) := by
  have hlti : i < ops.size := (Array.getElem?_eq_some_iff.1 hi).1
  have hltj : j < ops.size := (Array.getElem?_eq_some_iff.1 hj).1
  have := List.all_eq_true.1 h i (List.mem_range.2 hlti)
  simp only [List.getElem?_map, hci, Option.map_some, h2, BEq.rfl, Bool.not_true, Bool.false_or] at this
  have := List.all_eq_true.1 this j (List.mem_range.2 hltj)
  simp only [hi, hj, hcj, Option.map_some, Option.getD_some, Bool.or_eq_true, Bool.and_eq_true, decide_eq_true_eq, beq_iff_eq, Option.some.injEq] at this
  rcases this with ((((h | h) | h) | h) | h) | h
  · exact absurd h hne
  · exact absurd h h0
  · exact absurd h h4
  · exact absurd h h5
  · exact .inl h
  · exact .inr h
variable {cs : List GC} {a0 : Act}
theorem wpAny_planH (I0 : World → Prop) (hI0 : ∀ w w', I0 w → Below w.heap.size w w' → I0 w') (hF0 : ∀ w, I0 w → F w) (hFs : ∀ j g, cs[j]? = some g → g.c.mode = 3 → (∀ w, g.I w → F w) ∨ ∀ (i : Nat) (gi : GC), cs[i]? = some gi → gi.c.mode = 4 ∨ gi.c.mode = 5 → reachB ops 6 j i = true)
    (hB : planB ops = true) (hbar : barH ops (cs.map (·.c.mode)) = true) (hlen : cs.length = ops.size) (hw : wpH P ops Q F T I0 ops.toList cs 0 [] [] a0) :
    ∀ (fuel : Nat) (listed : Array Bool) (a : Act) (w : World) (V : Nat → Value), listed.size = ops.size →
      (∀ (k : Nat) (o : Oper) (c : GC), listed.getD k false = true → ops[k]? = some o → cs[k]? = some c → c.c.S (opn V ops.toList 0 a0 k o) (V k)) →
      a = puts V (fun k => listed.getD k false) ops.toList 0 a0 →
      (∃ p, p ≤ cs.length ∧ (∀ k g, cs[k]? = some g → g.c.mode = 3 → (listed.getD k false = true ↔ k < p)) ∧ Iat I0 cs p w) →
      (∀ (k : Nat) (o : Oper) (c : GC), listed.getD k false = true → ops[k]? = some o → cs[k]? = some c → (∀ (b : Nat) (cb : GC), k < b → cs[b]? = some cb → listed.getD b false = true → cb.c.mode ≠ 3) → c.c.K (opx ops V ops.toList 0 a0 k o) (V k) w) →
      (∀ (k : Nat) (o : Oper) (c : GC), listed.getD k false = true → ops[k]? = some o → cs[k]? = some c → c.c.mode = 5 → c.c.K (opx ops V ops.toList 0 a0 k o) (V k) w) →
      (∀ j o, ops[j]? = some o → listed.getD j false = true → ∀ k, depB o k = true → listed.getD k false = true) →
      cnt (fun k => listed.getD k false) ops.size ≤ fuel → wpAny P .any ops Q fuel listed a w := by
  obtain ⟨hsel, hpl⟩ := planB_spec hB
  have full : ∀ (listed : Array Bool) (a : Act) (w : World) (V : Nat → Value),
      (∀ (k : Nat) (o : Oper) (c : GC), listed.getD k false = true → ops[k]? = some o → cs[k]? = some c → c.c.S (opn V ops.toList 0 a0 k o) (V k)) → a = puts V (fun k => listed.getD k false) ops.toList 0 a0 →
      (∃ p, p ≤ cs.length ∧ (∀ k g, cs[k]? = some g → g.c.mode = 3 → (listed.getD k false = true ↔ k < p)) ∧ Iat I0 cs p w) →
      (∀ (k : Nat) (o : Oper) (c : GC), listed.getD k false = true → ops[k]? = some o → cs[k]? = some c → (∀ (b : Nat) (cb : GC), k < b → cs[b]? = some cb → listed.getD b false = true → cb.c.mode ≠ 3) → c.c.K (opx ops V ops.toList 0 a0 k o) (V k) w) →
      (∀ (k : Nat) (o : Oper) (c : GC), listed.getD k false = true → ops[k]? = some o → cs[k]? = some c → c.c.mode = 5 → c.c.K (opx ops V ops.toList 0 a0 k o) (V k) w) →
      (∀ j, j < ops.size → listed.getD j false = true) → Q .normal a w := by
    intro listed a w V hV ha hb hK hPs hall
    have hI : Iat I0 cs cs.length w := by
      obtain ⟨p, hp, h1, h2⟩ := hb
      have := Iat_over I0 cs (cs.length - p) p (fun k g hpk _ hg hm => by
        have hk := (h1 k g hg hm).1 (hall k (by have := (List.getElem?_eq_some_iff.1 hg).1; omega))
        omega) (by omega)
      rw [show p + (cs.length - p) = cs.length by omega] at this
      rw [this]; exact h2
    have := (wpH_unroll (V := V) I0 ops.toList cs 0 [] [] a0 hw (fun k o c ho hk => by
      have ho' : ops[k]? = some o := by simpa using ho
      simpa using hV k o c (hall k (Array.getElem?_eq_some_iff.1 ho').1) ho' hk)).2 w hI
      (fun k o c hlt ho hk _ hnb => by
        have ho' : ops[k]? = some o := by simpa using ho
        have := hK k o c (hall k (by omega)) ho' hk (fun b cb h1 h2 h3 => hnb b cb h1 (List.getElem?_eq_some_iff.1 h2).1 h2)
        simpa using this) (fun _ => trivial) (fun k o c hlt ho hk _ hm => by
        have ho' : ops[k]? = some o := by simpa using ho
        have := hPs k o c (hall k (by omega)) ho' hk hm
        simpa using this) trivial
    rw [ha, puts_congr (V' := V) (D' := fun _ => true) ops.toList 0 a0 fun k _ h2 => ⟨hall k (by simpa using h2), fun _ => rfl⟩]
    exact this
  intro fuel
  induction fuel with
  | zero =>
    intro listed a w V hsz hV ha hb hK hPs hdown hcnt
    have hall := cnt_zero (Nat.le_zero.1 hcnt)
    refine ⟨?_, full listed a w V hV ha hb hK hPs hall⟩
    refine List.eq_nil_iff_forall_not_mem.2 fun j hj => ?_
    obtain ⟨h0, o, ho, _⟩ := mem_ready.1 hj
    have hlt : j < ops.size := (Array.getElem?_eq_some_iff.1 ho).1
    have := hall j hlt
    simp only [Array.getD_eq_getD_getElem?] at h0 this
    rw [Array.getElem?_eq_getElem (by omega)] at h0 this
    simp at h0 this
    rw [h0] at this; cases this
  | succ fuel ih =>
    intro listed a w V hsz hV ha hb hK hPs hdown hcnt
    have conv : ∀ j, j < ops.size → listed.getD j true = listed.getD j false := fun j hj => by
      simp only [Array.getD_eq_getD_getElem?]
      rw [Array.getElem?_eq_getElem (by omega)]; rfl
    refine ⟨fun hnil => ?_, fun i hi => ?_⟩
    · have hall : ∀ j, j < ops.size → listed.getD j false = true := by
        intro j
        induction j using Nat.strongRecOn with
        | ind j ihj =>
          intro hj
          cases hl : listed.getD j false with
          | true => rfl
          | false =>
            have : j ∈ Region.ready .any ops listed := mem_ready.2 ⟨by rw [conv j hj]; exact hl, ops[j], Array.getElem?_eq_getElem hj, fun e he hbd => by
              have hd : depB ops[j] e.on = true := by
                rw [depB_iff]
                obtain ⟨k, hk, rfl⟩ := Array.mem_iff_getElem.1 he
                exact ⟨k, hk, by simp [hbd]⟩
              have hlt := (hpl j ops[j] (Array.getElem?_eq_getElem hj)).1 _ hd
              exact ihj _ hlt (by omega)⟩
            rw [hnil] at this; cases this
      exact full listed a w V hV ha hb hK hPs hall
    · obtain ⟨h0, o, ho, hafter⟩ := mem_ready.1 hi
      have hlt : i < ops.size := (Array.getElem?_eq_some_iff.1 ho).1
      have h0' : listed.getD i false = false := by rw [← conv i hlt]; exact h0
      have hdeps : ∀ k, depB o k = true → listed.getD k false = true := fun k hk => by
        rw [depB_iff] at hk
        obtain ⟨q, hq, hk⟩ := hk
        simp only [Bool.and_eq_true, beq_iff_eq] at hk
        have := hafter o.after[q] (Array.getElem_mem hq) hk.2
        rw [hk.1] at this; exact this
      have hgo : ∀ j, (listed.setIfInBounds i true).getD j false = (j == i || listed.getD j false) := fun j => by
        by_cases hji : j = i
        · subst hji; simp [show j < listed.size by omega]
        · rw [getD_set_ne false (fun e => hji e.symm)]; simp [hji]
      obtain ⟨V1, hV1, hval0⟩ := extend (cs := cs.map (·.c)) (a0 := a0) hB V (fun k => listed.getD k false) hdown (fun k o c h1 h2 h3 => by
        rw [List.getElem?_map] at h3
        obtain ⟨g, hg, rfl⟩ := Option.map_eq_some_iff.1 h3
        exact hV k o g h1 h2 hg)
      have hval : validG V1 ops.toList cs 0 a0 := fun k o g h1 h2 => hval0 k o g.c h1 (by rw [List.getElem?_map, h2]; rfl)
      have hlook : ∀ t ∈ o.looksAt ops, (puts V1 (fun k => decide (k < 0 + i)) ops.toList 0 a0).tmps[t]? = a.tmps[t]? := fun t ht => by
        rw [ha]
        refine puts_look ops.toList 0 a0 a0 (fun k ok hk hd => ?_) rfl
        have hk' : ops[k]? = some ok := by simpa using hk
        simp only [Nat.zero_add]
        rcases ((hpl i o ho).2 k ok t hk' hd).1 ht with hdep | ⟨hik, hdep⟩
        · have h1 := (hpl i o ho).1 k hdep
          have h2 := hdeps k hdep
          exact ⟨by rw [h2]; simpa using h1, fun _ => hV1 k h2⟩
        · refine ⟨?_, fun hD => by simp at hD; omega⟩
          cases hl : listed.getD k false with
          | false => simp; omega
          | true => have := hdown k ok hk' hl i hdep; rw [h0'] at this; cases this
      obtain ⟨he, hwn⟩ := exec_look (ops := ops) (hsel i o · · ho) hlook
      have hoa : o.op.operands.toList.map (puts V1 (fun k => decide (k < 0 + i)) ops.toList 0 a0).eval = opn V ops.toList 0 a0 i o := opn_congr (V' := V) hB ho fun j hj => hV1 j (hdeps j hj)
      have hoax : oargs ops o (puts V1 (fun k => decide (k < 0 + i)) ops.toList 0 a0) = opx ops V ops.toList 0 a0 i o := opx_congr (V' := V) hB ho fun j hj => hV1 j (hdeps j hj)
      obtain ⟨c, ks', ps', g1, g2, g3, g6⟩ := (wpH_unroll (V := V1) I0 ops.toList cs 0 [] [] a0 hw hval).1 i o (by simpa using ho)
      have hi' : i < cs.length := (List.getElem?_eq_some_iff.1 g1).1
      have hks : c.c.mode ≠ 0 → c.c.mode ≠ 4 → c.c.mode ≠ 5 → depK o ks' w := fun hm0 hm4 hm5 => g3 w (fun k ok ck hki hok hck hd hnb => by
          have hok' : ops[k]? = some ok := by simpa using hok
          have hd' : depB o k = true := by simpa using hd
          have hDk := hdeps k hd'
          have := hK k ok ck hDk hok' hck (fun b cb hkb hcb hDb hm => by
            have hbl : b < cs.length := (List.getElem?_eq_some_iff.1 hcb).1
            have hob : ops[b]? = some ops[b] := Array.getElem?_eq_getElem (by omega)
            by_cases hbi : b < i
            · exact hnb b cb hkb hbi hcb hm
            · have hbne : i ≠ b := by rintro rfl; rw [h0'] at hDb; cases hDb
              rcases barH_spec hbar hob ho hcb g1 hm hm0 hm4 hm5 hbne with ⟨_, h⟩ | ⟨h, _⟩
              · have := reachB_down (D := fun k => listed.getD k false) hdown 6 b i h hDb
                rw [h0'] at this; cases this
              · omega)
          rw [opx_congr (V' := V) hB hok' fun j hj => hV1 j (hdown k ok hok' hDk j hj)]
          simpa [hV1 k hDk] using this) (fun _ => trivial)
      obtain ⟨p, hp, hp1, hp2⟩ := hb
      have hps : depK o ps' w := g6 w (fun k ok ck hki hok hck hd hm => by
          have hok' : ops[k]? = some ok := by simpa using hok
          have hd' : depB o k = true := by simpa using hd
          have hDk := hdeps k hd'
          have := hPs k ok ck hDk hok' hck hm
          rw [opx_congr (V' := V) hB hok' fun j hj => hV1 j (hdown k ok hok' hDk j hj)]
          simpa [hV1 k hDk] using this) trivial
      have hFw : c.c.mode = 4 ∨ c.c.mode = 5 → F w := fun hm45 => Iat_floatH hF0 cs p w (fun j g hjp hg hm => by
        have hl := (hp1 j g hg hm).2 hjp
        rcases hFs j g hg hm with h | h
        · exact h
        · have := reachB_down (D := fun k => listed.getD k false) hdown 6 j i (h i c g1 hm45) hl
          rw [h0'] at this; cases this) hp2
      /- ahead of an operation that asks the world those that turn memory are done just as far as the text -/
      have hbefore : c.c.mode ≠ 0 → c.c.mode ≠ 4 → c.c.mode ≠ 5 → ∀ k g, cs[k]? = some g → g.c.mode = 3 → (listed.getD k false = true ↔ k < i) := fun hm0 hm4 hm5 k g hg hm => by
        have hkl : k < cs.length := (List.getElem?_eq_some_iff.1 hg).1
        have hok : ops[k]? = some ops[k] := Array.getElem?_eq_getElem (by omega)
        constructor
        · intro hl
          rcases Nat.lt_or_ge k i with h | h
          · exact h
          · have hne : i ≠ k := by rintro rfl; rw [h0'] at hl; cases hl
            rcases barH_spec hbar hok ho hg g1 hm hm0 hm4 hm5 hne with ⟨_, h'⟩ | ⟨h', _⟩
            · have := reachB_down (D := fun k => listed.getD k false) hdown 6 k i h' hl
              rw [h0'] at this; cases this
            · omega
        · intro hki
          rcases barH_spec hbar hok ho hg g1 hm hm0 hm4 hm5 (by omega) with ⟨h', _⟩ | ⟨_, h'⟩
          · omega
          · unfold reachB at h'
            rw [ho] at h'
            simp only [Bool.or_eq_true] at h'
            rcases h' with h' | h'
            · exact hdeps k h'
            · obtain ⟨q, _, hq⟩ := List.any_eq_true.1 h'
              rw [Bool.and_eq_true] at hq
              exact reachB_down (D := fun k => listed.getD k false) hdown 5 q k hq.2 (hdeps q hq.1)
      have hIat : c.c.mode ≠ 0 → c.c.mode ≠ 4 → c.c.mode ≠ 5 → Iat I0 cs i w := fun hm0 hm4 hm5 => by
        have hb' := hbefore hm0 hm4 hm5
        rcases Nat.lt_or_ge p i with h | h
        · have := Iat_over I0 cs (i - p) p (fun k g h1 h2 hg hm => by
            have := (hp1 k g hg hm).1 ((hb' k g hg hm).2 (by omega)); omega) (by omega)
          rw [show p + (i - p) = i by omega] at this
          rw [this]; exact hp2
        · have := Iat_over I0 cs (p - i) i (fun k g h1 h2 hg hm => by
            have := (hb' k g hg hm).1 ((hp1 k g hg hm).2 (by omega)); omega) (by omega)
          rw [show i + (p - i) = p by omega] at this
          rw [← this]; exact hp2
      have next : ∀ u w', (c.c.mode ≠ 3 → Below w.heap.size w w') ∧ (c.c.mode = 3 → c.I w' ∧ T w w') ∧ (c.c.mode = 5 → ∀ x v w w', c.c.K x v w → T w w' → c.c.K x v w') ∧ c.c.S (opn V ops.toList 0 a0 i o) u ∧ c.c.K (opx ops V ops.toList 0 a0 i o) u w' → wpAny P .any ops Q fuel (listed.setIfInBounds i true) (a.put o.dst u) w' := by
          rintro u w' ⟨hbl, hbW, _, hSu, hKu⟩
          have opnU : ∀ k ok, ops[k]? = some ok → (k = i ∨ listed.getD k false = true) → opn (fun q => if q = i then u else V q) ops.toList 0 a0 k ok = opn V ops.toList 0 a0 k ok := fun k ok hok hk =>
            opn_congr hB hok fun j hj => by
              have : j ≠ i := by
                rintro rfl
                rcases hk with rfl | hk
                · have := (hpl k ok hok).1 k hj; omega
                · have := hdown k ok hok hk j hj
                  rw [h0'] at this; cases this
              simp [this]
          have opxU : ∀ k ok, ops[k]? = some ok → (k = i ∨ listed.getD k false = true) → opx ops (fun q => if q = i then u else V q) ops.toList 0 a0 k ok = opx ops V ops.toList 0 a0 k ok := fun k ok hok hk =>
            opx_congr hB hok fun j hj => by
              have : j ≠ i := by
                rintro rfl
                rcases hk with rfl | hk
                · have := (hpl k ok hok).1 k hj; omega
                · have := hdown k ok hok hk j hj
                  rw [h0'] at this; cases this
              simp [this]
          refine ih (listed.setIfInBounds i true) _ w' (fun k => if k = i then u else V k) (by simpa using hsz) (fun k ok c' hl hok hk => ?_) ?_ ?_ (fun k ok c' hl hok hk hnb => ?_) (fun k ok c' hl hok hk hm5 => ?_) (fun j oj hj hl k hd => ?_) ?_
          · rw [hgo] at hl
            by_cases hki : k = i
            · subst hki
              rw [hk] at g1; cases g1
              rw [hok] at ho; cases ho
              rw [opnU k _ hok (.inl rfl)]
              simpa using hSu
            · have hl : listed.getD k false = true := by simpa [hki] using hl
              rw [opnU k ok hok (.inr hl)]
              simpa [hki] using hV k ok c' hl hok hk
          · rw [ha, puts_put ops.toList 0 i a0 (by simpa using ho) (by simpa using h0') (fun k o' hk hne d hd => ?_)]
            · exact puts_congr ops.toList 0 a0 fun k _ _ => ⟨by simp only [Nat.zero_add]; exact (hgo k).symm, fun _ => by simp⟩
            · exact ((hpl k o' (by simpa using hk)).2 i o d ho hd).2 hne
          · by_cases hm3 : c.c.mode = 3
            · refine ⟨i + 1, by omega, fun k g hg hm => ?_, ?_⟩
              · rw [hgo]
                have := hbefore (by omega) (by omega) (by omega) k g hg hm
                by_cases hki : k = i
                · subst hki; simp
                · simp only [beq_iff_eq, hki, Bool.or_eq_true, false_or]
                  rw [this]; omega
              · rw [Iat_succ _ _ _ _ g1, invG_eq hm3]; exact (hbW hm3).1
            · refine ⟨p, hp, fun k g hg hm => ?_, Iat_kept hI0 cs p w w' hp2 (hbl hm3)⟩
              rw [hgo]
              by_cases hki : k = i
              · subst hki
                rw [hg] at g1; cases g1
                exact absurd hm hm3
              · simp only [beq_iff_eq, hki, Bool.or_eq_true, false_or]
                exact hp1 k g hg hm
          · by_cases hki : k = i
            · subst hki
              rw [hk] at g1; cases g1
              rw [hok] at ho; cases ho
              rw [opxU k _ hok (.inl rfl)]
              simpa using hKu
            · rw [hgo] at hl
              have hl : listed.getD k false = true := by simpa [hki] using hl
              rw [opxU k ok hok (.inr hl)]
              simp only [if_neg hki]
              by_cases hm0 : c'.c.mode = 0
              · exact c'.c.quiet hm0 _ _ _
              · by_cases hm4 : c'.c.mode = 4
                · obtain ⟨c4, ks4, ps4, q1, q2, _, _⟩ := (wpH_unroll (V := V1) I0 ops.toList cs 0 [] [] a0 hw hval).1 k ok (by simpa using hok)
                  rw [hk] at q1; cases q1
                  rcases q2 with ⟨_, _, _, q4, _, _, _⟩ | ⟨_, q0, _⟩
                  · exact (q4 hm4).1 _ _ _
                  · exact absurd q0 hm0
                · by_cases hm5 : c'.c.mode = 5
                  · have h1 := hPs k ok c' hl hok hk hm5
                    by_cases hm2 : c.c.mode = 3
                    · obtain ⟨c4, ks4, ps4, q1, q2, _, _⟩ := (wpH_unroll (V := V1) I0 ops.toList cs 0 [] [] a0 hw hval).1 k ok (by simpa using hok)
                      rw [hk] at q1; cases q1
                      rcases q2 with ⟨_, _, _, _, _, _, q5⟩ | ⟨_, q0, _⟩
                      · exact (q5 hm5).1 _ _ _ _ h1 (hbW hm2).2
                      · exact absurd q0 hm0
                    · exact c'.c.keeps _ _ _ _ h1 (hbl hm2)
                  by_cases hm2 : c.c.mode = 3
                  · exfalso
                    rcases barH_spec hbar ho hok g1 hk hm2 hm0 hm4 hm5 hki with ⟨h, _⟩ | ⟨_, h⟩
                    · exact hnb i c h g1 (by rw [hgo]; simp) hm2
                    · have := reachB_down (D := fun k => listed.getD k false) hdown 6 k i h hl
                      rw [h0'] at this; cases this
                  · exact c'.c.keeps _ _ _ _ (hK k ok c' hl hok hk fun b cb h1 h2 h3 => hnb b cb h1 h2 (by rw [hgo, h3]; simp)) (hbl hm2)
          · by_cases hki : k = i
            · subst hki
              rw [hk] at g1; cases g1
              rw [hok] at ho; cases ho
              rw [opxU k _ hok (.inl rfl)]
              simpa using hKu
            · rw [hgo] at hl
              have hl : listed.getD k false = true := by simpa [hki] using hl
              rw [opxU k ok hok (.inr hl)]
              simp only [if_neg hki]
              have h1 := hPs k ok c' hl hok hk hm5
              by_cases hm2 : c.c.mode = 3
              · obtain ⟨c4, ks4, ps4, q1, q2, _, _⟩ := (wpH_unroll (V := V1) I0 ops.toList cs 0 [] [] a0 hw hval).1 k ok (by simpa using hok)
                rw [hk] at q1; cases q1
                rcases q2 with ⟨_, _, _, _, _, _, q5⟩ | ⟨_, q0, _⟩
                · exact (q5 hm5).1 _ _ _ _ h1 (hbW hm2).2
                · omega
              · exact c'.c.keeps _ _ _ _ h1 (hbl hm2)
          · rw [hgo] at hl ⊢
            by_cases hji : j = i
            · subst hji
              rw [hj] at ho; cases ho
              rw [hdeps k hd]; simp
            · have : listed.getD j false = true := by simpa [hji] using hl
              rw [hdown j oj hj this k hd]; simp
          · have := cnt_set (f := fun k => listed.getD k false) (g := fun k => (listed.setIfInBounds i true).getD k false) (i := i) h0' (by simp only [hgo]; simp) (fun j hj => by simp only [hgo]; simp [hj]) hlt
            omega
      unfold wpOp
      simp only [ho]
      unfold stepH at g2
      rw [hoa, hoax] at g2
      rcases g2 with ⟨k1, km, k0, k4, k5, k3, k9⟩ | ⟨k1, k2, k3⟩
      · rw [← hwn, k1, if_pos rfl]
        rcases km with hm | hm | hm | hm | hm
        · refine .inl (uponC_op (T := fun u w' => (∃ n, w' = w.drewN n) ∧ c.c.S (opn V ops.toList 0 a0 i o) u) (fun u w' hT => ?_) ?_)
          · obtain ⟨⟨n, rfl⟩, hS⟩ := hT
            exact next u _ ⟨fun _ => below_drewN (Below.refl _ _) _, fun h => by omega, fun h => by omega, hS, c.c.quiet hm _ _ _⟩
          · rw [← he]; exact k0 hm w
        · refine .inl (uponC_op (T := fun u w' => Below w.heap.size w w' ∧ c.c.S (opn V ops.toList 0 a0 i o) u ∧ c.c.K (opx ops V ops.toList 0 a0 i o) u w') (fun u w' hT => next u w' ⟨fun _ => hT.1, fun h => by omega, fun h => by omega, hT.2⟩) ?_)
          rw [← he]; exact k5 hm w (hIat (by omega) (by omega) (by omega)) (hks (by omega) (by omega) (by omega)) hps
        · refine .inl (uponC_op (T := fun u w' => (c.I w' ∧ T w w') ∧ c.c.S (opn V ops.toList 0 a0 i o) u ∧ c.c.K (opx ops V ops.toList 0 a0 i o) u w') (fun u w' hT => next u w' ⟨fun h => absurd hm h, fun _ => hT.1, fun h => by omega, hT.2⟩) ?_)
          rw [← he]; exact k3 hm w (hIat (by omega) (by omega) (by omega)) (hks (by omega) (by omega) (by omega)) hps
        · refine .inl (uponC_op (T := fun u w' => Below w.heap.size w w' ∧ c.c.S (opn V ops.toList 0 a0 i o) u) (fun u w' hT => next u w' ⟨fun _ => hT.1, fun h => by omega, fun h => by omega, hT.2, (k4 hm).1 _ _ _⟩) ?_)
          rw [← he]; exact (k4 hm).2 w (hFw (.inl hm))
        · refine .inl (uponC_op (T := fun u w' => Below w.heap.size w w' ∧ c.c.S (opn V ops.toList 0 a0 i o) u ∧ c.c.K (opx ops V ops.toList 0 a0 i o) u w') (fun u w' hT => next u w' ⟨fun _ => hT.1, fun h => by omega, fun _ => (k9 hm).1, hT.2⟩) ?_)
          rw [← he]; exact (k9 hm).2 w (hFw (.inr hm)) hps
      · rw [← hwn, k1, if_neg (by simp)]
        exact next undef w ⟨fun _ => Below.refl _ _, fun h => by omega, fun h => by omega, k3, c.c.quiet k2 _ _ _⟩
/-- An operation that waits for all that ask what always holds. -/
def lateB (ops : Array Oper) (ms : List Nat) (j : Nat) : Bool := (List.range ops.size).all fun i => !(ms[i]? == some 4 || ms[i]? == some 5) || reachB ops 6 j i
/-- What always holds follows from each operation that turns memory and is not late. -/
def allH (ops : Array Oper) (ms : List Nat) (F : World → Prop) : Nat → List GC → Prop
  | _, [] => True
  | j, g :: cs => ((g.c.mode = 3 ∧ lateB ops ms j = false) → ∀ w, g.I w → F w) ∧ allH ops ms F (j + 1) cs
theorem allH_at {ops : Array Oper} {ms : List Nat} {F : World → Prop} : ∀ {cs : List GC} {n : Nat}, allH ops ms F n cs → ∀ (j : Nat) (g : GC), cs[j]? = some g → g.c.mode = 3 → lateB ops ms (n + j) = false → ∀ w, g.I w → F w
  | [], _, _, j, g, hg, _, _, _, _ => by simp at hg
  | g' :: cs, n, h, 0, g, hg, hm, hl, w, hw => by
    simp only [List.getElem?_cons_zero, Option.some.injEq] at hg
    subst hg
    exact h.1 ⟨hm, hl⟩ w hw
  | g' :: cs, n, h, j + 1, g, hg, hm, hl, w, hw => allH_at h.2 j g (by simpa using hg) hm (by rw [show n + 1 + j = n + (j + 1) by omega]; exact hl) w hw
/-- ONE WALK OF THE ORDER OF THE TEXT SERVES EVERY ORDER. -/
theorem wp_region_planH {id : Nat} {a : Act} {W : World} {l : List Oper} {cs : List GC} (I0 : World → Prop) (hI0 : ∀ w w', I0 w → Below w.heap.size w w' → I0 w') (hW : I0 W) (hF0 : ∀ w, I0 w → F w)
    (hw : wpH P l.toArray Q F T I0 l cs 0 [] [] a) (hFs : allH l.toArray (cs.map (·.c.mode)) F 0 cs) (hpr1 : P.follows .mixedOrders = true) (hpr2 : planB l.toArray = true) (hpr3 : barH l.toArray (cs.map (·.c.mode)) = true) (hlen : cs.length = l.length) : (Code.region id l.toArray true).wp P Q a W := by
  have hsz : l.toArray.size = l.length := by simp
  refine wp_region_any hpr1 ?_
  refine wpAny_planH (cs := cs) (a0 := a) I0 hI0 hF0 (fun j g hg hm => ?_) hpr2 hpr3 (by omega) (by simpa using hw) _ _ _ _ (fun _ => undef) (by simp) ?_ ?_ ?_ ?_ ?_ ?_ ?_
  · cases hl : lateB l.toArray (cs.map (·.c.mode)) j with
    | false => exact .inl (allH_at hFs j g hg hm (by rw [Nat.zero_add]; exact hl))
    | true =>
      refine .inr fun i gi hgi hmi => ?_
      have hlt : i < l.toArray.size := by have := (List.getElem?_eq_some_iff.1 hgi).1; omega
      have := List.all_eq_true.1 hl i (List.mem_range.2 hlt)
      simp only [List.getElem?_map, hgi, Option.map_some, Bool.or_eq_true, Bool.not_eq_true', Bool.or_eq_false_iff, beq_eq_false_iff_ne, ne_eq, Option.some.injEq] at this
      rcases this with h | h
      · rcases hmi with hmi | hmi
        · exact absurd hmi h.1
        · exact absurd hmi h.2
      · exact h
  · intro k o c hl
    exfalso
    simp only [Array.getD_eq_getD_getElem?] at hl
    by_cases hk : k < l.length <;> simp [hk] at hl
  · refine (puts_none _ _ _ fun k _ => ?_).symm
    simp only [Array.getD_eq_getD_getElem?]
    by_cases hk : k < l.length <;> simp [hk]
  · refine ⟨0, Nat.zero_le _, fun k g _ _ => ?_, ?_⟩
    · simp only [Array.getD_eq_getD_getElem?]
      by_cases hk : k < l.length <;> simp [hk]
    · rw [Iat_zero]; exact hI0 W _ hW ((Below.refl _ _).drew)
  · intro k o c hl
    exfalso
    simp only [Array.getD_eq_getD_getElem?] at hl
    by_cases hk : k < l.length <;> simp [hk] at hl
  · intro k o c hl
    exfalso
    simp only [Array.getD_eq_getD_getElem?] at hl
    by_cases hk : k < l.length <;> simp [hk] at hl
  · intro j o _ hl
    exfalso
    simp only [Array.getD_eq_getD_getElem?] at hl
    by_cases hk : j < l.length <;> simp [hk] at hl
  · have : ∀ (f : Nat → Bool) (n : Nat), cnt f n ≤ n := by
      intro f n
      induction n with
      | zero => exact Nat.le_refl _
      | succ n ih => simp only [cnt]; split <;> omega
    exact this _ _
end
end Go.Proofs.Ytpnkapdemgieaaa
set_option linter.unusedSimpArgs false
set_option linter.unusedVariables false
set_option linter.unusedSectionVars false
namespace Go.Proofs.Ytpnkapdemgieaaa
open Go Go.RowKit
section
variable {P : Program} {ops : Array Oper} {Q : Exit → Act → World → Prop} {F : World → Prop}
theorem uponC_weak {P : Program} {T T' : Value → World → Prop} {r : Result Next} (hT : ∀ u w, T u w → T' u w) (h : uponC P T r) : uponC P T' r := by
  unfold uponC at h ⊢
  split at h
  · exact hT _ _ h
  · exact hT _ _ h
  · refine Calls.mono h ?_
    rintro e w' ⟨v, he, hv⟩
    exact ⟨v, he, hT _ _ hv⟩
  · exact h.elim
theorem stepG_mode {I : World → Prop} {o : Oper} {g : GC} {ks : List (Nat × (World → Prop))} {a : Act} (h : stepG P ops F I o g ks a) : g.c.mode ≠ 5 := by
  rcases h with ⟨_, h, _⟩ | ⟨_, h, _⟩ <;> omega
theorem stepH_of {I : World → Prop} {o : Oper} {g : GC} {ks : List (Nat × (World → Prop))} {a : Act} (h : stepG P ops F I o g ks a) : stepH P ops F (fun _ _ => True) I o g ks [] a := by
  have hm := stepG_mode h
  rcases h with ⟨h1, h2, h3, h4, h5, h6⟩ | h
  · refine .inl ⟨h1, by omega, h3, h4, fun e w hi hk _ => h5 e w hi hk, fun e w hi hk _ => ?_, fun e => absurd e hm⟩
    exact uponC_weak (fun u w' hT => ⟨⟨hT.1, trivial⟩, hT.2⟩) (h6 e w hi hk)
  · exact .inr h
theorem wpH_of : ∀ (I : World → Prop) (l : List Oper) (cs : List GC) (i : Nat) (ks : List (Nat × (World → Prop))) (a : Act), wpG P ops Q F I l cs i ks a → wpH P ops Q F (fun _ _ => True) I l cs i ks [] a
  | I, [], [], i, ks, a, h => (by unfold wpG at h; unfold wpH; exact fun w hi hk _ => h w hi hk)
  | I, [], c :: cs, i, ks, a, h => (by unfold wpG at h; exact h.elim)
  | I, o :: l, [], i, ks, a, h => (by unfold wpG at h; exact h.elim)
  | I, o :: l, g :: cs, i, ks, a, h => by
    unfold wpG at h
    unfold wpH
    have hm := stepG_mode h.1
    refine ⟨stepH_of h.1, fun v hv => ?_⟩
    have e2 : nextH g.c i (g.c.K (oargs ops o a) v) ks = nextG g.c i (g.c.K (oargs ops o a) v) ks := by
      unfold nextH
      split
      · exact absurd (by assumption) hm
      · rfl
    have e3 : nextP g.c i (g.c.K (oargs ops o a) v) ([] : List (Nat × (World → Prop))) = [] := by
      unfold nextP
      split
      · exact absurd (by assumption) hm
      · rfl
    rw [e2, e3]
    exact wpH_of _ l cs _ _ _ (h.2 v hv)
theorem wp_region_planL {id : Nat} {a : Act} {W : World} {l : List Oper} {cs : List GC} (I0 : World → Prop) (hI0 : ∀ w w', I0 w → Below w.heap.size w w' → I0 w') (hW : I0 W) (hF0 : ∀ w, I0 w → F w)
    (hw : wpG P l.toArray Q F I0 l cs 0 [] a) (hFs : allH l.toArray (cs.map (·.c.mode)) F 0 cs) (hpr1 : P.follows .mixedOrders = true) (hpr2 : planB l.toArray = true) (hpr3 : barH l.toArray (cs.map (·.c.mode)) = true) (hlen : cs.length = l.length) : (Code.region id l.toArray true).wp P Q a W :=
  wp_region_planH I0 hI0 hW hF0 (wpH_of _ _ _ _ _ _ hw) hFs hpr1 hpr2 hpr3 hlen
end
end Go.Proofs.Ytpnkapdemgieaaa
set_option linter.unusedSimpArgs false
set_option linter.unusedVariables false
set_option linter.unusedSectionVars false
namespace Go.Proofs.Ytpnkapdemgieaaa
open Go Go.RowKit
open Go.ChangeShapes Go.WideShapes Go.ChangeAt Go.RowKit Go.Joins
section
variable {ops : Array Oper} {Q : Exit → Act → World → Prop} {F : World → Prop}
variable {l : List Oper} {cs : List GC} {i : Nat} {ks : List (Nat × (World → Prop))} {a : Act} {o : Oper}
theorem wpG_cellR {I I' : World → Prop} (ad : Addr) (v : Value) (hI : ∀ w w', I' w → Below w.heap.size w w' → I' w') (hw : Region.wanted o (yielded ops a.tmps) = true) (h1 : ∀ w, I w → (execOp a.eval o).run Try.prog w = .ok .skip (w.setCell ad v)) (h2 : ∀ w, I w → depK o ks w → I' (w.setCell ad v))
    (h : wpG Try.prog ops Q F I' l cs (i + 1) [(i, fun _ => True)] (a.put o.dst undef)) : wpG Try.prog ops Q F I (o :: l) (GC.turn undef I' (fun _ => True) hI (fun _ _ _ _ => trivial) :: cs) i ks a := by
  simp only [wpG]
  refine ⟨.inl ⟨hw, .inr (.inr (.inl rfl)), fun h => absurd (show (3 : Nat) = 0 from h) (by decide), fun h => absurd (show (3 : Nat) = 4 from h) (by decide), fun h => absurd (show (3 : Nat) = 1 from h) (by decide), fun _ w hi hk => ?_⟩, fun u hu => ?_⟩
  · rw [h1 w hi]; exact ⟨h2 w hi hk, rfl, trivial⟩
  · have hu : u = undef := hu
    subst hu; exact h
end
end Go.Proofs.Ytpnkapdemgieaaa
set_option linter.unusedSimpArgs false
set_option linter.unusedVariables false
set_option linter.unusedSectionVars false
namespace Go.Proofs.Ytpnkapdemgieaaa
open Go Go.RowKit
open Go.ChangeShapes Go.WideShapes Go.ChangeAt Go.RowKit Go.Joins
theorem turn_grown {s : Nat} {a c : World} (h : Turn s (s + 1) a c) : a.grownBy c (some s) := ⟨h.os, h.tape, h.output, h.size, fun k hk hne => h.block k hk (by
  rcases Nat.lt_trichotomy k s with h1 | h1 | h1
  · exact .inl h1
  · exact absurd (by rw [h1]) hne
  · exact .inr h1)⟩
/-- What a draw of a bar has turned: the source; the bar stands in its variable. -/
def DBI (B sb K : Nat) (W : World) (b : Nat) (cs : List Value) (u : World) : Prop := SrcAt u sb K ∧ Turn sb (sb + 1) W u ∧ owned u b cs ∧ (B ≤ b ∧ b < u.heap.size)
theorem DBI.later {B sb K : Nat} {W : World} {b : Nat} {cs : List Value} {u u' : World} (h : DBI B sb K W b cs u) (hb : Below u.heap.size u u') : DBI B sb K W b cs u' :=
  ⟨h.1.later hb h.1.lt, h.2.1.trans (Turn.below hb), h.2.2.1.later hb, h.2.2.2.1, Nat.lt_of_lt_of_le h.2.2.2.2 hb.size⟩
theorem DBI.drawn {B sb K L : Nat} {W : World} {b : Nat} {cs : List Value} {u u' : World} (h : DBI B sb K W b cs u) (hs : sb < B) (hg : Turn sb (sb + 1) u u') (hk : SrcAt u' sb L) : DBI B sb L W b cs u' :=
  ⟨hk, h.2.1.trans hg, owned_kept h.2.2.1 (turn_grown hg) h.2.2.2.2 (fun k hk => by cases hk; have := h.2.2.2.1; omega), h.2.2.2.1, Nat.lt_of_lt_of_le h.2.2.2.2 hg.size⟩
theorem SrcAt.grown {u u' : World} {sb K : Nat} {g : Option Nat} (h : SrcAt u sb K) (hg : u.grownBy u' g) (hne : ∀ k, g = some k → sb < k) : SrcAt u' sb K := by
  have hlt := h.lt
  obtain ⟨p, n, c, kk, s, ⟨a0, a1, a2⟩, ⟨f1, f2⟩, hby, hr⟩ := h
  have bl : ∀ k, k ≤ sb → u'.heap[k]? = u.heap[k]? := fun k hk => hg.block k (by omega) (fun e => by have := hne k e.symm; omega)
  refine ⟨p, n, c, kk, s, ⟨(World.cell?_of_block (bl sb (Nat.le_refl _))).trans a0, (World.cell?_of_block (bl sb (Nat.le_refl _))).trans a1, (World.cell?_of_block (bl sb (Nat.le_refl _))).trans a2⟩, ⟨(World.frozen?_of_block (bl sb (Nat.le_refl _))).trans f1, (World.frozen?_of_block (bl sb (Nat.le_refl _))).trans f2⟩, ⟨hby.1, fun i hi => ?_⟩, hr⟩
  obtain ⟨b', o', x, e1, e2, e3, e4⟩ := hby.2 i hi
  exact ⟨b', o', x, e1, e2, (World.cell?_of_block (bl b' (by omega))).trans e3, e4⟩
theorem DBI.grown {B sb K : Nat} {W : World} {b : Nat} {cs : List Value} {u u' : World} {g : Option Nat} (h : DBI B sb K W b cs u) (hs : sb < B) (hW : W.heap.size ≤ B) (hg : u.grownBy u' g) (hne : ∀ k, g = some k → k ≠ b ∧ B ≤ k) : DBI B sb K W b cs u' :=
  ⟨h.1.grown hg (fun k hk => by have := (hne k hk).2; omega), ⟨hg.os.trans h.2.1.os, hg.tape.trans h.2.1.tape, hg.output.trans h.2.1.output, Nat.le_trans h.2.1.size hg.size, fun k hk hr => (hg.block k (Nat.lt_of_lt_of_le hk h.2.1.size) (fun e => by have := (hne k e.symm).2; omega)).trans (h.2.1.block k hk hr)⟩,
    owned_kept h.2.2.1 hg h.2.2.2.2 (fun k hk => (hne k hk).1), h.2.2.2.1, Nat.lt_of_lt_of_le h.2.2.2.2 hg.size⟩
section
variable {ops : Array Oper} {Q : Exit → Act → World → Prop} {F : World → Prop}
variable {l : List Oper} {cs : List GC} {i : Nat} {ks : List (Nat × (World → Prop))} {a : Act} {o : Oper}
theorem wpG_pickI {I I' : World → Prop} {b K : Nat} {n : Int} (hI' : ∀ w w', I' w → Below w.heap.size w w' → I' w') (hn : 1 ≤ n ∧ n ≤ 1000000000) (hK : K ≤ 900000) (hw : Region.wanted o (yielded ops a.tmps) = true) (he : ∀ w, (execOp a.eval o).run Try.prog w = .ok (.enter 34 #[.pointer (some ⟨b, 0, none⟩), .int .i64 n]) w)
    (hs : ∀ w, I w → SrcAt w b K) (hd : ∀ w w', I w → Turn b (b + 1) w w' → SrcAt w' b (K + 2) → I' w')
    (h : ∀ r, 0 ≤ r → r ≤ n - 1 → wpG Try.prog ops Q F I' l cs (i + 1) [(i, fun _ => True)] (a.put o.dst (.int .i64 r))) : wpG Try.prog ops Q F I (o :: l) (⟨Clm.pick (n - 1), I', hI'⟩ :: cs) i ks a := by
  refine wpG_turnC (Clm.pick (n - 1)) rfl _ _ hw he (fun w hi hk => ?_) ?_
  · refine (pick_any b K n w (hs w hi) hK hn).mono ?_
    rintro e w' ⟨r, rfl, ⟨h1, h2⟩, hg, hz, hs⟩
    exact ⟨_, rfl, hd w w' hi hg hs, ⟨r, rfl, fun _ => ⟨h1, h2⟩⟩, trivial⟩
  · rintro v ⟨r, rfl, h2⟩
    have := h2 (by omega)
    exact h r this.1 this.2
theorem OF.setC {B : Nat} {w : World} {u : Value} {xs : List Nat} (h : OF B w u xs) {a : Addr} (hb : a.block < B) (v : Value) : OF B (w.setCell a v) u xs := by
  have hg : w.grownBy (w.setCell a v) (some a.block) := ⟨rfl, rfl, rfl, by simp, fun k _ hk => Below.heap_setCell _ _ _ _ (fun e => hk (by rw [e]))⟩
  refine h.kept hg ?_
  cases hu : u.ownBlock with
  | none => exact .inl rfl
  | some k => refine .inr fun e => ?_; have := (h.block k hu).1; cases e; omega
end
/-- An own slice with a number more of a class; where it lies. -/
def appD (B S : Nat) (g0 : Option Nat) (xs : List Nat) (R : Nat → Prop) (v : Value) (w : World) : Prop := ∃ r, R r ∧ appP B S g0 (xs ++ [r]) v w
def Clm.appD (B S : Nat) (g0 : Option Nat) (xs : List Nat) (R : Nat → Prop) : Clm := ⟨3, fun _ u => ∃ q c, u = .slice q (xs.length + 1) c, fun _ u w => Go.Proofs.Ytpnkapdemgieaaa.appD B S g0 xs R u w, fun _ => ⟨_, none, 0, rfl⟩, fun _ _ _ _ h hb => (by obtain ⟨r, h1, h2⟩ := h; exact ⟨r, h1, h2.later hb⟩), fun h => nomatch h⟩
theorem wpG_appD {ops : Array Oper} {Q : Exit → Act → World → Prop} {F I : World → Prop} {l : List Oper} {cs : List GC} {i : Nat} {ks : List (Nat × (World → Prop))} {a : Act} {o : Oper} (B S : Nat) (xs : List Nat) (R : Nat → Prop) (r : Nat) (I' : World → Prop) (hI : ∀ w w', I' w → Below w.heap.size w w' → I' w') {s x : Operand} {v : Value} {b : Nat}
    (ho : o.op = .call { callee := .builtin .append, args := #[s, x], argTypes := #[24, 24] }) (hs : a.eval s = v) (hx : a.eval x = .slice (some ⟨b, 0, .none⟩) 1 1)
    (hw : Region.wanted o (yielded ops a.tmps) = true) (hR : R r) (hk : ∀ w, I w → depK o ks w → (OF B w v xs ∧ w.cell? ⟨b, 0, .none⟩ = some (.float .f32 r)) ∧ B ≤ w.heap.size ∧ S ≤ w.heap.size) (hn : xs.length < 1048576)
    (hI' : ∀ w w', I w → w.grownBy w' v.ownBlock → I' w')
    (h : ∀ q c, wpG Try.prog ops Q F I' l cs (i + 1) [(i, fun w => appD B S v.ownBlock xs R (.slice q (xs.length + 1) c) w)] (a.put o.dst (.slice q (xs.length + 1) c))) : wpG Try.prog ops Q F I (o :: l) (⟨Clm.appD B S v.ownBlock xs R, I', hI⟩ :: cs) i ks a := by
  obtain ⟨i0, hi, hz0, hz1, hz2⟩ := info_parts Try.infoF32
  refine wpG_turnE (Clm.appD B S v.ownBlock xs R) rfl I' hI hw (fun w hb hd => ?_) ?_
  · obtain ⟨⟨hO, hc⟩, hB, hS⟩ := hk w hb hd
    obtain ⟨v', w', hr, h2, h3, h4, h5⟩ := run_append_own_at (P := Try.prog) w B 24 o.type 28 i0 (.float .f32 0) 1 4 Try.underlying24 hi hz0 hz1 hz2 rfl (by decide) v xs.length (xs.map (Value.float .f32)) hO ⟨b, 0, .none⟩ 1 1 [.float .f32 r] rfl
      (by
        intro j u hj
        match j, hj with
        | 0, hj => simp at hj; subst hj; simpa [Addr.add] using hc
        | j + 1, hj => simp at hj) (by intro u hu; simp at hu; subst hu; rfl) (by unfold maxLen; omega) (by omega) hB
    have hO' : OF B w' v' (xs ++ [r]) := by
      unfold OF
      simpa using h2
    have he : (execOp a.eval o).run Try.prog w = .ok (.value v') w' := by
      unfold execOp
      simp only [ho, resolve, invoke, builtin, Sem.run_bind, Sem.run_pure, Result.andThen_ok, List.map_toArray, List.map_cons, List.map_nil, hs, hx, hr]
    rw [he]
    have hsh := hO'.shape
    rw [show (xs ++ [r]).length = xs.length + 1 by simp] at hsh
    exact ⟨hI' w w' hb h3, hsh, r, hR, hO', h5.imp id fun h k hk => by rw [h] at hk; cases hk; exact hS⟩
  · rintro u ⟨q, c, rfl⟩
    exact h q c
theorem owned_put {w : World} {b : Nat} {cs : List Value} {j : Nat} (h : owned w b cs) (hj : j < cs.length) (x : Value) : owned (w.setCell ⟨b, j, none⟩ x) b (cs.set j x) := by
  intro k y hk
  have hkl : k < cs.length := by have := (List.getElem?_eq_some_iff.1 hk).1; simpa using this
  have h1 := h k cs[k] (List.getElem?_eq_getElem hkl)
  refine ⟨?_, by rw [World.frozen?_setCell]; exact h1.2⟩
  by_cases e : j = k
  · subst e
    rw [World.cell?_setCell_same' _ _ _ (by rw [h1.1]; rfl)]
    rw [List.getElem?_set_self hkl] at hk
    exact hk
  · rw [List.getElem?_set_ne e] at hk
    rw [World.cell?_setCell_other]
    · exact (h k y hk).1
    · intro he
      simp only [Addr.mk.injEq, and_true, true_and] at he
      exact e he
/-- The four lists of a variable. -/
structure RX4 (B sb K : Nat) (W : World) (b : Nat) (X : Nat → Value) (L : Nat → List Nat) (u : World) : Prop where
  d : DBI B sb K W b [X 0, X 1, X 2, X 3] u
  o : ∀ i, i < 4 → OF B u (X i) (L i)
  ne : ∀ i, i < 4 → ∀ k, (X i).ownBlock = some k → k ≠ b
  ap : ∀ i j, i < 4 → j < 4 → i ≠ j → (X i).ownBlock = none ∨ (X i).ownBlock ≠ (X j).ownBlock
/-- All but one of them. -/
def RO4 (B sb K : Nat) (W : World) (b : Nat) (X : Nat → Value) (L : Nat → List Nat) (i : Nat) (u : World) : Prop := DBI B sb K W b [X 0, X 1, X 2, X 3] u ∧ ∀ j, j < 4 → j ≠ i → OF B u (X j) (L j)
def up {α : Type} (f : Nat → α) (i : Nat) (v : α) (j : Nat) : α := if j = i then v else f j
theorem RX4.later {B sb K : Nat} {W : World} {b : Nat} {X : Nat → Value} {L : Nat → List Nat} {u u' : World} (h : RX4 B sb K W b X L u) (hb : Below u.heap.size u u') : RX4 B sb K W b X L u' := ⟨h.d.later hb, fun i hi => (h.o i hi).later hb, h.ne, h.ap⟩
theorem RO4.later {B sb K : Nat} {W : World} {b : Nat} {X : Nat → Value} {L : Nat → List Nat} {i : Nat} {u u' : World} (h : RO4 B sb K W b X L i u) (hb : Below u.heap.size u u') : RO4 B sb K W b X L i u' := ⟨h.1.later hb, fun j h1 h2 => (h.2 j h1 h2).later hb⟩
theorem RX4.drawn {B sb K K' : Nat} {W : World} {b : Nat} {X : Nat → Value} {L : Nat → List Nat} {u u' : World} (h : RX4 B sb K W b X L u) (hs : sb < B) (hg : Turn sb (sb + 1) u u') (hk : SrcAt u' sb K') : RX4 B sb K' W b X L u' :=
  ⟨h.d.drawn hs hg hk, fun i hi => (h.o i hi).kept (turn_grown hg) (by
    cases hu : (X i).ownBlock with
    | none => exact .inl rfl
    | some k => refine .inr fun e => ?_; have := ((h.o i hi).block k hu).1; cases e; omega), h.ne, h.ap⟩
theorem RX4.app {B sb K : Nat} {W : World} {b : Nat} {X : Nat → Value} {L : Nat → List Nat} {i : Nat} {u u' : World} (h : RX4 B sb K W b X L u) (hi : i < 4) (hs : sb < B) (hW : W.heap.size ≤ B) (hg : u.grownBy u' (X i).ownBlock) : RO4 B sb K W b X L i u' :=
  ⟨h.d.grown hs hW hg (fun k hk => ⟨h.ne i hi k hk, ((h.o i hi).block k hk).1⟩), fun j h1 h2 => (h.o j h1).kept hg (h.ap j i h1 hi h2)⟩
/-- One list more is stored. -/
def RT4 (B sb K : Nat) (W : World) (b : Nat) (X : Nat → Value) (L : Nat → List Nat) (i S : Nat) (R : Nat → Prop) (u : World) : Prop := ∃ q2 c2, RO4 B sb K W b (up X i (.slice q2 ((L i).length + 1) c2)) L i u ∧ appD B S (X i).ownBlock (L i) R (.slice q2 ((L i).length + 1) c2) u
theorem RT4.later {B sb K : Nat} {W : World} {b : Nat} {X : Nat → Value} {L : Nat → List Nat} {i S : Nat} {R : Nat → Prop} {u u' : World} (h : RT4 B sb K W b X L i S R u) (hb : Below u.heap.size u u') : RT4 B sb K W b X L i S R u' := by
  obtain ⟨q9, c9, h1, r9, h2, h3⟩ := h
  exact ⟨q9, c9, h1.later hb, r9, h2, h3.later hb⟩
theorem up_at {α : Type} (f : Nat → α) (i : Nat) (v : α) : up f i v i = v := if_pos rfl
theorem up_ne {α : Type} {f : Nat → α} {i j : Nat} (v : α) (h : j ≠ i) : up f i v j = f j := if_neg h
theorem RO4.put {B sb K : Nat} {W : World} {b : Nat} {X : Nat → Value} {L : Nat → List Nat} {i : Nat} {u : World} (h : RO4 B sb K W b X L i u) (hi : i < 4) (hs : sb < B) (hW : W.heap.size ≤ B) (hne : ∀ j, j < 4 → j ≠ i → ∀ k, (X j).ownBlock = some k → k ≠ b) (v : Value) : RO4 B sb K W b (up X i v) L i (u.setCell ⟨b, i, none⟩ v) := by
  have hg : u.grownBy (u.setCell ⟨b, i, none⟩ v) (some b) := ⟨rfl, rfl, rfl, by simp, fun k _ hk => Below.heap_setCell _ _ _ _ (fun e => hk (by rw [e]))⟩
  obtain ⟨hd, ho⟩ := h
  have hB := hd.2.2.2.1
  refine ⟨⟨hd.1.grown hg (fun k hk => by cases hk; omega), ⟨hg.os.trans hd.2.1.os, hg.tape.trans hd.2.1.tape, hg.output.trans hd.2.1.output, Nat.le_trans hd.2.1.size hg.size, fun k hk hr => (hg.block k (Nat.lt_of_lt_of_le hk hd.2.1.size) (fun e => by cases e; omega)).trans (hd.2.1.block k hk hr)⟩, ?_, hB, Nat.lt_of_lt_of_le hd.2.2.2.2 hg.size⟩, fun j h1 h2 => ?_⟩
  · have e : [up X i v 0, up X i v 1, up X i v 2, up X i v 3] = [X 0, X 1, X 2, X 3].set i v := by
      rcases (show i = 0 ∨ i = 1 ∨ i = 2 ∨ i = 3 by omega) with rfl | rfl | rfl | rfl <;> rfl
    rw [e]
    exact owned_put hd.2.2.1 hi v
  · rw [up_ne v h2]
    refine (ho j h1 h2).kept hg ?_
    cases hu : (X j).ownBlock with
    | none => exact .inl rfl
    | some k => refine .inr fun e => ?_; cases e; exact hne j h1 h2 _ hu rfl
/-- Behind the store all four stand. -/
theorem RT4.all {B sb K : Nat} {W : World} {b : Nat} {X : Nat → Value} {L : Nat → List Nat} {i S : Nat} {R : Nat → Prop} {u : World} (h : RT4 B sb K W b X L i S R u) (hi : i < 4) (hne : ∀ j, j < 4 → ∀ k, (X j).ownBlock = some k → k ≠ b) (hb : b < S) (hap : ∀ j m, j < 4 → m < 4 → j ≠ m → (X j).ownBlock = none ∨ (X j).ownBlock ≠ (X m).ownBlock) (hS : ∀ j, j < 4 → ∀ k, (X j).ownBlock = some k → k < S) :
    ∃ q2 c2 r, R r ∧ RX4 B sb K W b (up X i (.slice q2 (L i ++ [r]).length c2)) (up L i (L i ++ [r])) u := by
  obtain ⟨q2, c2, ⟨hd, ho⟩, r, hr, hO, hbk⟩ := h
  have el : (L i ++ [r]).length = (L i).length + 1 := by simp
  refine ⟨q2, c2, r, hr, ?_⟩
  rw [el]
  refine ⟨hd, fun j hj => ?_, fun j hj k hk => ?_, fun j m hj hm hjm => ?_⟩
  · by_cases e : j = i
    · subst e; rw [up_at, up_at]; exact hO
    · have := ho j hj e
      rw [up_ne _ e] at this
      rw [up_ne _ e, up_ne _ e]; exact this
  · by_cases e : j = i
    · subst e
      rw [up_at] at hk
      rcases hbk with h9 | h9
      · rw [h9] at hk; exact hne j hj k hk
      · have := h9 k hk; omega
    · rw [up_ne _ e] at hk; exact hne j hj k hk
  · by_cases e : j = i
    · subst e
      rw [up_at, up_ne _ (fun h => hjm h.symm)]
      rcases hbk with h9 | h9
      · rw [h9]; exact hap j m hj hm hjm
      · cases hu : (Value.slice q2 ((L j).length + 1) c2).ownBlock with
        | none => exact .inl rfl
        | some k => exact .inr fun e2 => by have h1 := h9 k hu; have h2 := hS m hm k e2.symm; omega
    · rw [up_ne _ e]
      by_cases e2 : m = i
      · subst e2
        rw [up_at]
        rcases hbk with h9 | h9
        · rw [h9]; exact hap j m hj hm hjm
        · cases hu : (X j).ownBlock with
          | none => exact .inl rfl
          | some k => exact .inr fun e3 => by have h1 := h9 k e3.symm; have h2 := hS j hj k hu; omega
      · rw [up_ne _ e2]; exact hap j m hj hm hjm
end Go.Proofs.Ytpnkapdemgieaaa
set_option linter.unusedSimpArgs false
set_option linter.unusedVariables false
set_option linter.unusedSectionVars false
namespace Go.Proofs.Ytpnkapdemgieaaa
open Go Go.RowKit
open Go.ChangeShapes Go.WideShapes Go.ChangeAt Go.RowKit Go.Joins
/-- A drawn number of the i-th list. -/
def RDC (i : Nat) (x : Nat) : Prop := ∃ m : Int, ((if i = 3 then -16 else 1) ≤ m ∧ m ≤ (if i = 3 then 16 else 8)) ∧ cn .f32 x = fop .quo .f32 (cn .f32 (floatOfInt .f32 m)) (cn .f32 (if i = 3 then 1073741824 else 1082130432))
theorem rdc0 {i : Nat} (hi : i ≠ 3) {m : Int} {r : Nat} (h : 1 ≤ m ∧ m ≤ 8) (hr : cn .f32 r = fop .quo .f32 (cn .f32 (floatOfInt .f32 m)) (cn .f32 1082130432)) : RDC i r := by
  refine ⟨m, ?_, ?_⟩
  · rw [if_neg hi, if_neg hi]; exact h
  · rw [if_neg hi]; exact hr
theorem rdc3 {m : Int} {r : Nat} (h : -16 ≤ m ∧ m ≤ 16) (hr : cn .f32 r = fop .quo .f32 (cn .f32 (floatOfInt .f32 m)) (cn .f32 1073741824)) : RDC 3 r := ⟨m, h, hr⟩
def DC (i : Nat) (xs : List Nat) : Prop := ∀ j, j < xs.length → xs.getD j 0 < 4294967296 ∧ RDC i (xs.getD j 0)
theorem RDC.lt {i r : Nat} (h : RDC i r) : r < 4294967296 := by
  obtain ⟨m, hm, hr⟩ := h
  by_cases hi : i = 3
  · rw [if_pos hi, if_pos hi] at hm
    rw [if_pos hi] at hr
    exact raw_lt hr (half_val (n := m) (by omega)).1 (fop_lt _ _ _)
  · rw [if_neg hi, if_neg hi] at hm
    rw [if_neg hi] at hr
    exact raw_lt hr (quarter_val (n := m) (by omega)).1 (fop_lt _ _ _)
theorem DC.add {i : Nat} {xs : List Nat} (h : DC i xs) {r : Nat} (hr : RDC i r) : DC i (xs ++ [r]) := by
  intro j hj
  rw [List.getD_eq_getElem?_getD]
  by_cases e : j < xs.length
  · rw [List.getElem?_append_left e, ← List.getD_eq_getElem?_getD]; exact h j e
  · have ej : j = xs.length := by simp at hj; omega
    subst ej
    rw [List.getElem?_append_right (Nat.le_refl _), Nat.sub_self]
    exact ⟨hr.lt, hr⟩
/-- The lists, at a stage. -/
def LI (t k : Nat) (L : Nat → List Nat) : Prop := ∀ i, i < 4 → (L i).length = (if i < t then k + 1 else k) ∧ DC i (L i)
theorem LI.step {t k : Nat} {L : Nat → List Nat} (h : LI t k L) (ht : t < 4) {r : Nat} (hr : RDC t r) : LI (t + 1) k (up L t (L t ++ [r])) := by
  intro i hi
  by_cases e : i = t
  · subst e
    rw [up_at]
    obtain ⟨h1, h2⟩ := h i hi
    rw [if_neg (by omega)] at h1
    exact ⟨by rw [if_pos (by omega)]; simp [h1], h2.add hr⟩
  · rw [up_ne _ e]
    obtain ⟨h1, h2⟩ := h i hi
    refine ⟨?_, h2⟩
    rw [h1]
    by_cases e2 : i < t
    · rw [if_pos e2, if_pos (by omega)]
    · rw [if_neg e2, if_neg (by omega)]
theorem LI.next {k : Nat} {L : Nat → List Nat} (h : LI 4 k L) : LI 0 (k + 1) L := fun i hi => by
  obtain ⟨h1, h2⟩ := h i hi
  exact ⟨by rw [h1, if_pos hi, if_neg (by omega)], h2⟩
theorem app_put4 {B S b i : Nat} {g : Option Nat} {xs : List Nat} {v v2 : Value} {u : World} (h : appP B S g xs v u) (hne : ∀ k, g = some k → k ≠ b) (hS : b < S) : appP B S g xs v (u.setCell ⟨b, i, none⟩ v2) := by
  have hg : u.grownBy (u.setCell ⟨b, i, none⟩ v2) (some b) := ⟨rfl, rfl, rfl, by simp, fun k _ hk => Below.heap_setCell _ _ _ _ (fun e => hk (by rw [e]))⟩
  refine ⟨h.1.kept hg ?_, h.2⟩
  cases hu : v.ownBlock with
  | none => exact .inl rfl
  | some k =>
    refine .inr fun e => ?_
    cases e
    rcases h.2 with h2 | h2
    · exact hne _ (by rw [← h2, hu]) rfl
    · have := h2 _ hu; omega
theorem named_wp {f : FuncId} {args : Array Value} {w : World} {Q : Ending → World → Prop} (h : ∀ W, W = w → Calls Try.prog f args W Q) : Calls Try.prog f args w Q := h w rfl
set_option maxHeartbeats 8000000 in
set_option maxRecDepth 100000 in
theorem l02DrawOk_any (sb K : Nat) (w : World) (h : SrcAt w sb K) (hK : K ≤ 700000) : Calls Try.prog 33 #[.pointer (some ⟨sb, 0, none⟩)] w (fun e w' => ∃ (n : Nat) (X : Nat → Value) (L : Nat → List Nat), e = .returned (.agg #[X 0, X 1, X 2, X 3]) ∧ (1 ≤ n ∧ n ≤ 6) ∧ LI 0 n L ∧ (∀ i, i < 4 → OF w.heap.size w' (X i) (L i)) ∧ (∀ i j, i < 4 → j < 4 → i ≠ j → (X i).ownBlock = none ∨ (X i).ownBlock ≠ (X j).ownBlock) ∧ Turn sb (sb + 1) w w') := by
  have HS := Lib.hid h
  have hlt := h.lt
  have HPK := Lib.hid (fun (K : Nat) (n : Int) w h hK hn => pick_any sb K n w h hK hn)
  clear h
  go_enter Try.func33, Try.ntmps33
  go_wp2_with (first | (with_reducible refine at_list ?_; refine wpList_fop rfl rfl rfl rfl rfl ?_; intro r n hr0; have hr := hr0 _ _ (by first | with_reducible assumption | exact rfl) (by first | with_reducible assumption | exact rfl); clear hr0) | (with_reducible refine at_list ?_; refine wpList_neg rfl rfl rfl ?_; intro r hr0; have hr := hr0 _ (by first | with_reducible assumption | exact rfl); clear hr0) | (with_reducible refine at_list ?_; refine wpList_fop_g rfl rfl rfl rfl rfl ?_; intro r n hr0; have hr := hr0 _ _ (by first | with_reducible assumption | exact rfl) (by first | with_reducible assumption | exact rfl); clear hr0) | (with_reducible refine at_list ?_; refine wpList_wide_g rfl rfl Try.underlying28 Try.underlying39 rfl ?_; intro r n hr0; have hr := hr0 _ (by first | with_reducible assumption | exact rfl); clear hr0) | (with_reducible refine at_list ?_; refine wpList_wide rfl rfl rfl Try.underlying28 Try.underlying39 ?_; intro r n hr0; have hr := hr0 _ (by first | with_reducible assumption | exact rfl); clear hr0) | (go_at_call 34; refine stop_here ?_))
  unfold Stop
  refine named_wp ?_
  intro w1 hw1
  obtain ⟨wA, hwA⟩ : ∃ wA, wA = w.alloc (.cells #[.slice none 0 0, .slice none 0 0, .slice none 0 0, .slice none 0 0] 26) := ⟨_, rfl⟩
  have hzA : wA.heap.size = w.heap.size + 1 := by rw [hwA]; simp
  have HS1 : Hid (SrcAt w1 sb K) := by show SrcAt _ _ _; rw [hw1]; exact HS.out.later (B := w.heap.size) (by (repeat (first | (with_reducible exact Below.refl _ _) | (with_reducible assumption) | (with_reducible refine below_then ?_ (by assumption)) | (with_reducible refine Below.trans ?_ (by assumption)) | (with_reducible refine below_drewN ?_ _) | (with_reducible apply Below.drew) | (with_reducible refine below_alloc ?_ _) | refine Below.setCell ?_ (by first | (simp; done) | (simp; omega)) _))) hlt
  have HGA : Hid (Turn sb (sb + 1) w wA) := by show Turn _ _ _ _; rw [hwA]; exact Turn.below (by (repeat (first | (with_reducible exact Below.refl _ _) | (with_reducible assumption) | (with_reducible refine below_then ?_ (by assumption)) | (with_reducible refine Below.trans ?_ (by assumption)) | (with_reducible refine below_drewN ?_ _) | (with_reducible apply Below.drew) | (with_reducible refine below_alloc ?_ _) | refine Below.setCell ?_ (by first | (simp; done) | (simp; omega)) _)))
  have HG1 : Hid (Turn sb (sb + 1) wA w1) := by show Turn _ _ _ _; rw [hw1, hwA]; exact Turn.below (by (repeat (first | (with_reducible exact Below.refl _ _) | (with_reducible assumption) | (with_reducible refine below_then ?_ (by assumption)) | (with_reducible refine Below.trans ?_ (by assumption)) | (with_reducible refine below_drewN ?_ _) | (with_reducible apply Below.drew) | (with_reducible refine below_alloc ?_ _) | refine Below.setCell ?_ (by first | (simp; done) | (simp; omega)) _)))
  have HRA : Hid (owned wA w.heap.size [.slice none 0 0, .slice none 0 0, .slice none 0 0, .slice none 0 0]) := by
    show owned _ _ _
    rw [hwA]
    exact owned_alloc w [.slice none 0 0, .slice none 0 0, .slice none 0 0, .slice none 0 0] _
  have hz1 : w1.heap.size = w.heap.size + 1 + 1 := by rw [hw1]; simp
  have HR : Hid (owned w1 (w.heap.size + 1) [.slice none 0 0, .slice none 0 0, .slice none 0 0, .slice none 0 0]) := by
    show owned _ _ _
    rw [hw1]
    intro k x hx
    match k, hx with
    | 0, hx => obtain rfl : _ = x := by simpa using hx
               exact ⟨by go_simp, by go_simp⟩
    | 1, hx => obtain rfl : _ = x := by simpa using hx
               exact ⟨by go_simp, by go_simp⟩
    | 2, hx => obtain rfl : _ = x := by simpa using hx
               exact ⟨by go_simp, by go_simp⟩
    | 3, hx => obtain rfl : _ = x := by simpa using hx
               exact ⟨by go_simp, by go_simp⟩
    | k + 4, hx => simp at hx
  clear hw1 hwA
  obtain ⟨b2, hb2⟩ : ∃ b2, b2 = w.heap.size := ⟨_, rfl⟩
  obtain ⟨pb, hpb⟩ : ∃ pb, pb = w.heap.size + 1 := ⟨_, rfl⟩
  have hpb2 : pb = b2 + 1 := by omega
  have hzw : w1.heap.size = pb + 1 := by omega
  rw [← hpb] at HR hzA
  rw [← hb2] at HRA
  rw [← hpb, ← hb2]
  have hltb : sb < b2 := by omega
  have HB2 := Lib.hid hb2
  have HPB := Lib.hid hpb2
  have hbp : b2 < pb := by omega
  have hpw : pb < w1.heap.size := by omega
  have hzA2 : wA.heap.size ≤ pb := by omega
  have hzA3 : pb ≤ wA.heap.size := by omega
  clear hb2 hpb hz1 hpb2 hzw hzA
  refine (HPK.out K 6 _ HS1.out (by omega) (by omega)).mono ?_
  rintro e w2 ⟨r1, rfl, ⟨hr11, hr12⟩, hg2, hz2, hs2⟩
  have HD2 : Hid (RX4 pb sb (K + 2) wA pb (fun _ => .slice none 0 0) (fun _ => []) w2) :=
    (show RX4 pb sb K wA pb (fun _ => .slice none 0 0) (fun _ => []) w1 from ⟨⟨HS1.out, HG1.out, HR.out, Nat.le_refl _, by omega⟩, fun i hi => OF.nil0 _ _, fun i hi k hk => (by cases hk), fun i j _ _ _ => .inl rfl⟩).drawn (by omega) hg2 hs2
  clear hg2 hs2
  go_wp2_with (first | (with_reducible refine at_list ?_; refine wpList_fop rfl rfl rfl rfl rfl ?_; intro r n hr0; have hr := hr0 _ _ (by first | with_reducible assumption | exact rfl) (by first | with_reducible assumption | exact rfl); clear hr0) | (with_reducible refine at_list ?_; refine wpList_neg rfl rfl rfl ?_; intro r hr0; have hr := hr0 _ (by first | with_reducible assumption | exact rfl); clear hr0) | (with_reducible refine at_list ?_; refine wpList_fop_g rfl rfl rfl rfl rfl ?_; intro r n hr0; have hr := hr0 _ _ (by first | with_reducible assumption | exact rfl) (by first | with_reducible assumption | exact rfl); clear hr0) | (with_reducible refine at_list ?_; refine wpList_wide_g rfl rfl Try.underlying28 Try.underlying39 rfl ?_; intro r n hr0; have hr := hr0 _ (by first | with_reducible assumption | exact rfl); clear hr0) | (with_reducible refine at_list ?_; refine wpList_wide rfl rfl rfl Try.underlying28 Try.underlying39 ?_; intro r n hr0; have hr := hr0 _ (by first | with_reducible assumption | exact rfl); clear hr0))
  refine wp_named ?_
  intro ws hws
  obtain ⟨N, hN⟩ : ∃ N : Nat, 1 + r1 = (N : Int) := Int.eq_ofNat_of_zero_le (by omega)
  simp only [hN] at hws ⊢
  have hNb : 1 ≤ N ∧ N ≤ 6 := by omega
  have HDs : Hid (RX4 pb sb (K + 2) wA pb (fun _ => .slice none 0 0) (fun _ => []) ws) := by show RX4 _ _ _ _ _ _ _ _; rw [hws]; exact HD2.out
  clear hws HD2 hN hr11 hr12
  go_loopw [4] (fun t wr => ∃ (k : Nat) (X : Nat → Value) (L : Nat → List Nat), k ≤ N ∧ t = .int .i64 ((N : Int) - k) ∧ Hid (LI 0 k L) ∧ Hid (RX4 pb sb (K + 2 + 8 * k) wA pb X L wr)) (fun t _ => (intOf t).toNat)
  case atStart => exact ⟨0, _, _, Nat.zero_le _, by simp, fun i hi => ⟨rfl, fun j hj => by simp at hj⟩, HDs.out⟩
  case round =>
    obtain ⟨k, X, L, hkN, rfl, HL, HX⟩ := hrel
    clear HDs
    have hn64 : IntKind.i64.wrap ((N : Int) - k - 1) = (N : Int) - k - 1 := i64_fit (by omega)
    obtain ⟨KK, hKK⟩ : ∃ q, K + 2 + 8 * k = q := ⟨_, rfl⟩
    rw [hKK] at HX
    have hK1 : KK ≤ 800000 := by omega
    by_cases hk : k < N
    · have hpos : (0 : Int) < (N : Int) - k := by omega
      have hsb : sb < pb := by omega
      have yy := (HX.out.d.2.2.1 0 _ rfl).1
      go_wp2_with (first | (with_reducible refine at_list ?_; refine wpList_fop rfl rfl rfl rfl rfl ?_; intro r n hr0; have hr := hr0 _ _ (by first | with_reducible assumption | exact rfl) (by first | with_reducible assumption | exact rfl); clear hr0) | (with_reducible refine at_list ?_; refine wpList_neg rfl rfl rfl ?_; intro r hr0; have hr := hr0 _ (by first | with_reducible assumption | exact rfl); clear hr0) | (with_reducible refine at_list ?_; refine wpList_fop_g rfl rfl rfl rfl rfl ?_; intro r n hr0; have hr := hr0 _ _ (by first | with_reducible assumption | exact rfl) (by first | with_reducible assumption | exact rfl); clear hr0) | (with_reducible refine at_list ?_; refine wpList_wide_g rfl rfl Try.underlying28 Try.underlying39 rfl ?_; intro r n hr0; have hr := hr0 _ (by first | with_reducible assumption | exact rfl); clear hr0) | (with_reducible refine at_list ?_; refine wpList_wide rfl rfl rfl Try.underlying28 Try.underlying39 ?_; intro r n hr0; have hr := hr0 _ (by first | with_reducible assumption | exact rfl); clear hr0))
      have HNE := Lib.hid HX.out.ne
      have HAP := Lib.hid HX.out.ap
      have HBK := Lib.hid (fun i hi => (HX.out.o i hi).block)
      have hxl : (L 0).length < 1048576 := by have := (HL.out 0 (by decide)).1; (first | rw [if_pos (by decide)] at this | rw [if_neg (by decide)] at this); omega
      have hpbw : pb < wr.heap.size := HX.out.d.2.2.2.2
      (apply wp_region_planL (F := (fun u => u.cell? ⟨pb, 0, none⟩ = some (X 0))) (fun u => RX4 pb sb KK wA pb X L u ∧ wr.heap.size ≤ u.heap.size) (fun a c h hb => ⟨h.1.later hb, Nat.le_trans h.2 hb.size⟩); (case hW => exact (by exact ⟨HX.out, Nat.le_refl _⟩)); (case hF0 => exact (by (intro u hu; exact (hu.1.d.2.2.1 0 _ rfl).1))); ((apply wpG_det; (case hw => exact rfl); (case hs => (intro cs b h; cases h)); (case h1 => (intro w'; go_simp <;> exact rfl))); apply wpG_norm; (case ha => (simp only [Act.put, List.setIfInBounds_toArray, List.set_cons_zero, List.set_cons_succ]; exact rfl))); ((apply wpG_any; (case hw => exact rfl); (case h1 => (intro w' hb; go_simp <;> exact rfl))); apply wpG_norm; (case ha => (simp only [Act.put, List.setIfInBounds_toArray, List.set_cons_zero, List.set_cons_succ]; exact rfl))); ((apply wpG_det; (case hw => exact rfl); (case hs => (intro cs b h; cases h)); (case h1 => (intro w'; go_simp <;> exact rfl))); apply wpG_norm; (case ha => (simp only [Act.put, List.setIfInBounds_toArray, List.set_cons_zero, List.set_cons_succ]; exact rfl))); ((apply wpG_pickI (I' := fun u => RX4 pb sb (KK + 2) wA pb X L u ∧ wr.heap.size ≤ u.heap.size) (b := sb) (K := KK) (n := 8) (fun a c h hb => ⟨h.1.later hb, Nat.le_trans h.2 hb.size⟩) (by omega) (by omega); (case hw => exact rfl); (case he => (intro w'; go_simp <;> first | exact rfl | exact ⟨rfl, rfl⟩)); (case hs => (intro u hu; exact hu.1.d.1)); (case hd => (intro u u' hu hg hs; exact ⟨hu.1.drawn hsb hg hs, Nat.le_trans hu.2 hg.size⟩)); intro m hm1 hm2; have e5 : IntKind.i64.wrap (1 + m) = 1 + m := i64_fit (by omega)); apply wpG_norm; (case ha => (simp only [Act.put, List.setIfInBounds_toArray, List.set_cons_zero, List.set_cons_succ]; exact rfl))); ((apply wpG_det; (case hw => exact rfl); (case hs => (intro cs b h; cases h)); (case h1 => (intro w'; go_simp <;> exact rfl))); apply wpG_norm; (case ha => (simp only [Act.put, List.setIfInBounds_toArray, List.set_cons_zero, List.set_cons_succ]; exact rfl))); ((apply wpG_det; (case hw => exact rfl); (case hs => (intro cs b h; cases h)); (case h1 => (intro w'; go_simp <;> exact rfl))); apply wpG_norm; (case ha => (simp only [Act.put, List.setIfInBounds_toArray, List.set_cons_zero, List.set_cons_succ]; exact rfl))); ((apply wpG_fop rfl rfl rfl rfl rfl; intro r hr0; have hr := hr0 _ _ (by first | with_reducible assumption | exact rfl) (by first | with_reducible assumption | exact rfl); clear hr0); apply wpG_norm; (case ha => (simp only [Act.put, List.setIfInBounds_toArray, List.set_cons_zero, List.set_cons_succ]; exact rfl))); ((apply wpG_lit1 (B := wr.heap.size) (x := .float .f32 r); (case hx => (first | exact rfl | (simp [Op.operands]; exact rfl))); (case hw => exact rfl); (case hB => (intro u h; exact h.2)); (case h1 => (intro w'; go_simp <;> exact rfl)); intro bl); apply wpG_norm; (case ha => (simp only [Act.put, List.setIfInBounds_toArray, List.set_cons_zero, List.set_cons_succ]; exact rfl))); ((apply wpG_appD pb wr.heap.size (L 0) (RDC 0) r (fun u => RO4 pb sb (KK + 2) wA pb X L 0 u) (fun a c h hb => h.later hb) (v := X 0) (b := bl); (case ho => exact rfl); (case hs => exact rfl); (case hx => exact rfl); (case hw => exact rfl); (case hR => exact rdc0 (by decide) (by omega) hr); (case hk => (intro w' hi hd; exact ⟨⟨hi.1.o 0 (by decide), (hd.1.2 0 _ rfl).1⟩, Nat.le_trans (Nat.le_of_lt hpbw) hi.2, hi.2⟩)); (case hn => exact hxl); (case hI' => (intro a c hi hg; exact hi.1.app (by decide) hsb (by omega) hg)); intro q2 c2); apply wpG_norm; (case ha => (simp only [Act.put, List.setIfInBounds_toArray, List.set_cons_zero, List.set_cons_succ]; exact rfl))); ((apply wpG_det; (case hw => exact rfl); (case hs => (intro cs b h; cases h)); (case h1 => (intro w'; go_simp <;> exact rfl))); apply wpG_norm; (case ha => (simp only [Act.put, List.setIfInBounds_toArray, List.set_cons_zero, List.set_cons_succ]; exact rfl))); ((apply wpG_cellR (I' := RT4 pb sb (KK + 2) wA pb X L 0 wr.heap.size (RDC 0)) ⟨pb, 0, none⟩ (.slice q2 ((L 0).length + 1) c2) (fun a c h hb => RT4.later h hb); (case hw => exact rfl); (case h1 => (intro u hu; have y7 := (hu.1.2.2.1 0 _ rfl).1; have z7 := (hu.1.2.2.1 0 _ rfl).2; go_simp)); (case h2 => (intro u hu hd; obtain ⟨r9, h2, h3⟩ := hd.1; exact ⟨q2, c2, hu.put (by decide) hsb (by omega) (fun j h1 _ => HNE.out j h1) _, r9, h2, app_put4 h3 (HNE.out 0 (by decide)) hpbw⟩))); apply wpG_norm; (case ha => (simp only [Act.put, List.setIfInBounds_toArray, List.set_cons_zero, List.set_cons_succ]; exact rfl))); refine wpG_nil ?_; intro w' hi hkk)
      rotate_left
      case hFs => repeat' (first | exact trivial | (refine ⟨?_, ?_⟩) | (intro h; exact absurd (show (0 : Nat) = 3 from h.1) (by decide)) | (intro h; exact absurd (show (1 : Nat) = 3 from h.1) (by decide)) | (intro h; exact absurd (show (4 : Nat) = 3 from h.1) (by decide)) | (intro _ u hu; exact (hu.1.d.2.2.1 0 _ rfl).1) | (intro _ u hu; exact (hu.1.2.2.1 0 _ rfl).1) | (intro h; exact Bool.noConfusion (h.2.symm.trans (by kernel_rfl : _ = true))))
      all_goals (try (first | kernel_rfl | rfl))
      have HT := Lib.hid (RT4.all hi (by decide) HNE.out hpbw HAP.out (fun i hi k hk => (HBK.out i hi k hk).2))
      clear hi hkk yy
      obtain ⟨q2, c2, r9, hR9, hX9⟩ := HT.out
      have HL9 := Lib.hid (HL.out.step (by decide) hR9)
      have HX9 := Lib.hid hX9
      clear hX9 hR9 HT HX HL HNE HAP HBK hxl hpbw
      generalize up X 0 (.slice q2 (L 0 ++ [r9]).length c2) = X at HX9
      generalize up L 0 (L 0 ++ [r9]) = L at HX9 HL9
      rename Hid (RX4 _ _ _ _ _ _ _ _) => HX
      rename Hid (LI _ _ _) => HL
      rename World => wr
      have yy := (HX.out.d.2.2.1 1 _ rfl).1
      go_wp2_with (first | (with_reducible refine at_list ?_; refine wpList_fop rfl rfl rfl rfl rfl ?_; intro r n hr0; have hr := hr0 _ _ (by first | with_reducible assumption | exact rfl) (by first | with_reducible assumption | exact rfl); clear hr0) | (with_reducible refine at_list ?_; refine wpList_neg rfl rfl rfl ?_; intro r hr0; have hr := hr0 _ (by first | with_reducible assumption | exact rfl); clear hr0) | (with_reducible refine at_list ?_; refine wpList_fop_g rfl rfl rfl rfl rfl ?_; intro r n hr0; have hr := hr0 _ _ (by first | with_reducible assumption | exact rfl) (by first | with_reducible assumption | exact rfl); clear hr0) | (with_reducible refine at_list ?_; refine wpList_wide_g rfl rfl Try.underlying28 Try.underlying39 rfl ?_; intro r n hr0; have hr := hr0 _ (by first | with_reducible assumption | exact rfl); clear hr0) | (with_reducible refine at_list ?_; refine wpList_wide rfl rfl rfl Try.underlying28 Try.underlying39 ?_; intro r n hr0; have hr := hr0 _ (by first | with_reducible assumption | exact rfl); clear hr0))
      have HNE := Lib.hid HX.out.ne
      have HAP := Lib.hid HX.out.ap
      have HBK := Lib.hid (fun i hi => (HX.out.o i hi).block)
      have hxl : (L 1).length < 1048576 := by have := (HL.out 1 (by decide)).1; (first | rw [if_pos (by decide)] at this | rw [if_neg (by decide)] at this); omega
      have hpbw : pb < wr.heap.size := HX.out.d.2.2.2.2
      (apply wp_region_planL (F := (fun u => u.cell? ⟨pb, 1, none⟩ = some (X 1))) (fun u => RX4 pb sb (KK + 2) wA pb X L u ∧ wr.heap.size ≤ u.heap.size) (fun a c h hb => ⟨h.1.later hb, Nat.le_trans h.2 hb.size⟩); (case hW => exact (by exact ⟨HX.out, Nat.le_refl _⟩)); (case hF0 => exact (by (intro u hu; exact (hu.1.d.2.2.1 1 _ rfl).1))); ((apply wpG_det; (case hw => exact rfl); (case hs => (intro cs b h; cases h)); (case h1 => (intro w'; go_simp <;> exact rfl))); apply wpG_norm; (case ha => (simp only [Act.put, List.setIfInBounds_toArray, List.set_cons_zero, List.set_cons_succ]; exact rfl))); ((apply wpG_any; (case hw => exact rfl); (case h1 => (intro w' hb; go_simp <;> exact rfl))); apply wpG_norm; (case ha => (simp only [Act.put, List.setIfInBounds_toArray, List.set_cons_zero, List.set_cons_succ]; exact rfl))); ((apply wpG_det; (case hw => exact rfl); (case hs => (intro cs b h; cases h)); (case h1 => (intro w'; go_simp <;> exact rfl))); apply wpG_norm; (case ha => (simp only [Act.put, List.setIfInBounds_toArray, List.set_cons_zero, List.set_cons_succ]; exact rfl))); ((apply wpG_pickI (I' := fun u => RX4 pb sb (KK + 4) wA pb X L u ∧ wr.heap.size ≤ u.heap.size) (b := sb) (K := (KK + 2)) (n := 8) (fun a c h hb => ⟨h.1.later hb, Nat.le_trans h.2 hb.size⟩) (by omega) (by omega); (case hw => exact rfl); (case he => (intro w'; go_simp <;> first | exact rfl | exact ⟨rfl, rfl⟩)); (case hs => (intro u hu; exact hu.1.d.1)); (case hd => (intro u u' hu hg hs; exact ⟨hu.1.drawn hsb hg hs, Nat.le_trans hu.2 hg.size⟩)); intro m hm1 hm2; have e5 : IntKind.i64.wrap (1 + m) = 1 + m := i64_fit (by omega)); apply wpG_norm; (case ha => (simp only [Act.put, List.setIfInBounds_toArray, List.set_cons_zero, List.set_cons_succ]; exact rfl))); ((apply wpG_det; (case hw => exact rfl); (case hs => (intro cs b h; cases h)); (case h1 => (intro w'; go_simp <;> exact rfl))); apply wpG_norm; (case ha => (simp only [Act.put, List.setIfInBounds_toArray, List.set_cons_zero, List.set_cons_succ]; exact rfl))); ((apply wpG_det; (case hw => exact rfl); (case hs => (intro cs b h; cases h)); (case h1 => (intro w'; go_simp <;> exact rfl))); apply wpG_norm; (case ha => (simp only [Act.put, List.setIfInBounds_toArray, List.set_cons_zero, List.set_cons_succ]; exact rfl))); ((apply wpG_fop rfl rfl rfl rfl rfl; intro r hr0; have hr := hr0 _ _ (by first | with_reducible assumption | exact rfl) (by first | with_reducible assumption | exact rfl); clear hr0); apply wpG_norm; (case ha => (simp only [Act.put, List.setIfInBounds_toArray, List.set_cons_zero, List.set_cons_succ]; exact rfl))); ((apply wpG_lit1 (B := wr.heap.size) (x := .float .f32 r); (case hx => (first | exact rfl | (simp [Op.operands]; exact rfl))); (case hw => exact rfl); (case hB => (intro u h; exact h.2)); (case h1 => (intro w'; go_simp <;> exact rfl)); intro bl); apply wpG_norm; (case ha => (simp only [Act.put, List.setIfInBounds_toArray, List.set_cons_zero, List.set_cons_succ]; exact rfl))); ((apply wpG_appD pb wr.heap.size (L 1) (RDC 1) r (fun u => RO4 pb sb (KK + 4) wA pb X L 1 u) (fun a c h hb => h.later hb) (v := X 1) (b := bl); (case ho => exact rfl); (case hs => exact rfl); (case hx => exact rfl); (case hw => exact rfl); (case hR => exact rdc0 (by decide) (by omega) hr); (case hk => (intro w' hi hd; exact ⟨⟨hi.1.o 1 (by decide), (hd.1.2 0 _ rfl).1⟩, Nat.le_trans (Nat.le_of_lt hpbw) hi.2, hi.2⟩)); (case hn => exact hxl); (case hI' => (intro a c hi hg; exact hi.1.app (by decide) hsb (by omega) hg)); intro q2 c2); apply wpG_norm; (case ha => (simp only [Act.put, List.setIfInBounds_toArray, List.set_cons_zero, List.set_cons_succ]; exact rfl))); ((apply wpG_det; (case hw => exact rfl); (case hs => (intro cs b h; cases h)); (case h1 => (intro w'; go_simp <;> exact rfl))); apply wpG_norm; (case ha => (simp only [Act.put, List.setIfInBounds_toArray, List.set_cons_zero, List.set_cons_succ]; exact rfl))); ((apply wpG_cellR (I' := RT4 pb sb (KK + 4) wA pb X L 1 wr.heap.size (RDC 1)) ⟨pb, 1, none⟩ (.slice q2 ((L 1).length + 1) c2) (fun a c h hb => RT4.later h hb); (case hw => exact rfl); (case h1 => (intro u hu; have y7 := (hu.1.2.2.1 1 _ rfl).1; have z7 := (hu.1.2.2.1 1 _ rfl).2; go_simp)); (case h2 => (intro u hu hd; obtain ⟨r9, h2, h3⟩ := hd.1; exact ⟨q2, c2, hu.put (by decide) hsb (by omega) (fun j h1 _ => HNE.out j h1) _, r9, h2, app_put4 h3 (HNE.out 1 (by decide)) hpbw⟩))); apply wpG_norm; (case ha => (simp only [Act.put, List.setIfInBounds_toArray, List.set_cons_zero, List.set_cons_succ]; exact rfl))); refine wpG_nil ?_; intro w' hi hkk)
      rotate_left
      case hFs => repeat' (first | exact trivial | (refine ⟨?_, ?_⟩) | (intro h; exact absurd (show (0 : Nat) = 3 from h.1) (by decide)) | (intro h; exact absurd (show (1 : Nat) = 3 from h.1) (by decide)) | (intro h; exact absurd (show (4 : Nat) = 3 from h.1) (by decide)) | (intro _ u hu; exact (hu.1.d.2.2.1 1 _ rfl).1) | (intro _ u hu; exact (hu.1.2.2.1 1 _ rfl).1) | (intro h; exact Bool.noConfusion (h.2.symm.trans (by kernel_rfl : _ = true))))
      all_goals (try (first | kernel_rfl | rfl))
      have HT := Lib.hid (RT4.all hi (by decide) HNE.out hpbw HAP.out (fun i hi k hk => (HBK.out i hi k hk).2))
      clear hi hkk yy
      obtain ⟨q2, c2, r9, hR9, hX9⟩ := HT.out
      have HL9 := Lib.hid (HL.out.step (by decide) hR9)
      have HX9 := Lib.hid hX9
      clear hX9 hR9 HT HX HL HNE HAP HBK hxl hpbw
      generalize up X 1 (.slice q2 (L 1 ++ [r9]).length c2) = X at HX9
      generalize up L 1 (L 1 ++ [r9]) = L at HX9 HL9
      rename Hid (RX4 _ _ _ _ _ _ _ _) => HX
      rename Hid (LI _ _ _) => HL
      rename World => wr
      have yy := (HX.out.d.2.2.1 2 _ rfl).1
      go_wp2_with (first | (with_reducible refine at_list ?_; refine wpList_fop rfl rfl rfl rfl rfl ?_; intro r n hr0; have hr := hr0 _ _ (by first | with_reducible assumption | exact rfl) (by first | with_reducible assumption | exact rfl); clear hr0) | (with_reducible refine at_list ?_; refine wpList_neg rfl rfl rfl ?_; intro r hr0; have hr := hr0 _ (by first | with_reducible assumption | exact rfl); clear hr0) | (with_reducible refine at_list ?_; refine wpList_fop_g rfl rfl rfl rfl rfl ?_; intro r n hr0; have hr := hr0 _ _ (by first | with_reducible assumption | exact rfl) (by first | with_reducible assumption | exact rfl); clear hr0) | (with_reducible refine at_list ?_; refine wpList_wide_g rfl rfl Try.underlying28 Try.underlying39 rfl ?_; intro r n hr0; have hr := hr0 _ (by first | with_reducible assumption | exact rfl); clear hr0) | (with_reducible refine at_list ?_; refine wpList_wide rfl rfl rfl Try.underlying28 Try.underlying39 ?_; intro r n hr0; have hr := hr0 _ (by first | with_reducible assumption | exact rfl); clear hr0))
      have HNE := Lib.hid HX.out.ne
      have HAP := Lib.hid HX.out.ap
      have HBK := Lib.hid (fun i hi => (HX.out.o i hi).block)
      have hxl : (L 2).length < 1048576 := by have := (HL.out 2 (by decide)).1; (first | rw [if_pos (by decide)] at this | rw [if_neg (by decide)] at this); omega
      have hpbw : pb < wr.heap.size := HX.out.d.2.2.2.2
      (apply wp_region_planL (F := (fun u => u.cell? ⟨pb, 2, none⟩ = some (X 2))) (fun u => RX4 pb sb (KK + 4) wA pb X L u ∧ wr.heap.size ≤ u.heap.size) (fun a c h hb => ⟨h.1.later hb, Nat.le_trans h.2 hb.size⟩); (case hW => exact (by exact ⟨HX.out, Nat.le_refl _⟩)); (case hF0 => exact (by (intro u hu; exact (hu.1.d.2.2.1 2 _ rfl).1))); ((apply wpG_det; (case hw => exact rfl); (case hs => (intro cs b h; cases h)); (case h1 => (intro w'; go_simp <;> exact rfl))); apply wpG_norm; (case ha => (simp only [Act.put, List.setIfInBounds_toArray, List.set_cons_zero, List.set_cons_succ]; exact rfl))); ((apply wpG_any; (case hw => exact rfl); (case h1 => (intro w' hb; go_simp <;> exact rfl))); apply wpG_norm; (case ha => (simp only [Act.put, List.setIfInBounds_toArray, List.set_cons_zero, List.set_cons_succ]; exact rfl))); ((apply wpG_det; (case hw => exact rfl); (case hs => (intro cs b h; cases h)); (case h1 => (intro w'; go_simp <;> exact rfl))); apply wpG_norm; (case ha => (simp only [Act.put, List.setIfInBounds_toArray, List.set_cons_zero, List.set_cons_succ]; exact rfl))); ((apply wpG_pickI (I' := fun u => RX4 pb sb (KK + 6) wA pb X L u ∧ wr.heap.size ≤ u.heap.size) (b := sb) (K := (KK + 4)) (n := 8) (fun a c h hb => ⟨h.1.later hb, Nat.le_trans h.2 hb.size⟩) (by omega) (by omega); (case hw => exact rfl); (case he => (intro w'; go_simp <;> first | exact rfl | exact ⟨rfl, rfl⟩)); (case hs => (intro u hu; exact hu.1.d.1)); (case hd => (intro u u' hu hg hs; exact ⟨hu.1.drawn hsb hg hs, Nat.le_trans hu.2 hg.size⟩)); intro m hm1 hm2; have e5 : IntKind.i64.wrap (1 + m) = 1 + m := i64_fit (by omega)); apply wpG_norm; (case ha => (simp only [Act.put, List.setIfInBounds_toArray, List.set_cons_zero, List.set_cons_succ]; exact rfl))); ((apply wpG_det; (case hw => exact rfl); (case hs => (intro cs b h; cases h)); (case h1 => (intro w'; go_simp <;> exact rfl))); apply wpG_norm; (case ha => (simp only [Act.put, List.setIfInBounds_toArray, List.set_cons_zero, List.set_cons_succ]; exact rfl))); ((apply wpG_det; (case hw => exact rfl); (case hs => (intro cs b h; cases h)); (case h1 => (intro w'; go_simp <;> exact rfl))); apply wpG_norm; (case ha => (simp only [Act.put, List.setIfInBounds_toArray, List.set_cons_zero, List.set_cons_succ]; exact rfl))); ((apply wpG_fop rfl rfl rfl rfl rfl; intro r hr0; have hr := hr0 _ _ (by first | with_reducible assumption | exact rfl) (by first | with_reducible assumption | exact rfl); clear hr0); apply wpG_norm; (case ha => (simp only [Act.put, List.setIfInBounds_toArray, List.set_cons_zero, List.set_cons_succ]; exact rfl))); ((apply wpG_lit1 (B := wr.heap.size) (x := .float .f32 r); (case hx => (first | exact rfl | (simp [Op.operands]; exact rfl))); (case hw => exact rfl); (case hB => (intro u h; exact h.2)); (case h1 => (intro w'; go_simp <;> exact rfl)); intro bl); apply wpG_norm; (case ha => (simp only [Act.put, List.setIfInBounds_toArray, List.set_cons_zero, List.set_cons_succ]; exact rfl))); ((apply wpG_appD pb wr.heap.size (L 2) (RDC 2) r (fun u => RO4 pb sb (KK + 6) wA pb X L 2 u) (fun a c h hb => h.later hb) (v := X 2) (b := bl); (case ho => exact rfl); (case hs => exact rfl); (case hx => exact rfl); (case hw => exact rfl); (case hR => exact rdc0 (by decide) (by omega) hr); (case hk => (intro w' hi hd; exact ⟨⟨hi.1.o 2 (by decide), (hd.1.2 0 _ rfl).1⟩, Nat.le_trans (Nat.le_of_lt hpbw) hi.2, hi.2⟩)); (case hn => exact hxl); (case hI' => (intro a c hi hg; exact hi.1.app (by decide) hsb (by omega) hg)); intro q2 c2); apply wpG_norm; (case ha => (simp only [Act.put, List.setIfInBounds_toArray, List.set_cons_zero, List.set_cons_succ]; exact rfl))); ((apply wpG_det; (case hw => exact rfl); (case hs => (intro cs b h; cases h)); (case h1 => (intro w'; go_simp <;> exact rfl))); apply wpG_norm; (case ha => (simp only [Act.put, List.setIfInBounds_toArray, List.set_cons_zero, List.set_cons_succ]; exact rfl))); ((apply wpG_cellR (I' := RT4 pb sb (KK + 6) wA pb X L 2 wr.heap.size (RDC 2)) ⟨pb, 2, none⟩ (.slice q2 ((L 2).length + 1) c2) (fun a c h hb => RT4.later h hb); (case hw => exact rfl); (case h1 => (intro u hu; have y7 := (hu.1.2.2.1 2 _ rfl).1; have z7 := (hu.1.2.2.1 2 _ rfl).2; go_simp)); (case h2 => (intro u hu hd; obtain ⟨r9, h2, h3⟩ := hd.1; exact ⟨q2, c2, hu.put (by decide) hsb (by omega) (fun j h1 _ => HNE.out j h1) _, r9, h2, app_put4 h3 (HNE.out 2 (by decide)) hpbw⟩))); apply wpG_norm; (case ha => (simp only [Act.put, List.setIfInBounds_toArray, List.set_cons_zero, List.set_cons_succ]; exact rfl))); refine wpG_nil ?_; intro w' hi hkk)
      rotate_left
      case hFs => repeat' (first | exact trivial | (refine ⟨?_, ?_⟩) | (intro h; exact absurd (show (0 : Nat) = 3 from h.1) (by decide)) | (intro h; exact absurd (show (1 : Nat) = 3 from h.1) (by decide)) | (intro h; exact absurd (show (4 : Nat) = 3 from h.1) (by decide)) | (intro _ u hu; exact (hu.1.d.2.2.1 2 _ rfl).1) | (intro _ u hu; exact (hu.1.2.2.1 2 _ rfl).1) | (intro h; exact Bool.noConfusion (h.2.symm.trans (by kernel_rfl : _ = true))))
      all_goals (try (first | kernel_rfl | rfl))
      have HT := Lib.hid (RT4.all hi (by decide) HNE.out hpbw HAP.out (fun i hi k hk => (HBK.out i hi k hk).2))
      clear hi hkk yy
      obtain ⟨q2, c2, r9, hR9, hX9⟩ := HT.out
      have HL9 := Lib.hid (HL.out.step (by decide) hR9)
      have HX9 := Lib.hid hX9
      clear hX9 hR9 HT HX HL HNE HAP HBK hxl hpbw
      generalize up X 2 (.slice q2 (L 2 ++ [r9]).length c2) = X at HX9
      generalize up L 2 (L 2 ++ [r9]) = L at HX9 HL9
      rename Hid (RX4 _ _ _ _ _ _ _ _) => HX
      rename Hid (LI _ _ _) => HL
      rename World => wr
      have yy := (HX.out.d.2.2.1 3 _ rfl).1
      go_wp2_with (first | (with_reducible refine at_list ?_; refine wpList_fop rfl rfl rfl rfl rfl ?_; intro r n hr0; have hr := hr0 _ _ (by first | with_reducible assumption | exact rfl) (by first | with_reducible assumption | exact rfl); clear hr0) | (with_reducible refine at_list ?_; refine wpList_neg rfl rfl rfl ?_; intro r hr0; have hr := hr0 _ (by first | with_reducible assumption | exact rfl); clear hr0) | (with_reducible refine at_list ?_; refine wpList_fop_g rfl rfl rfl rfl rfl ?_; intro r n hr0; have hr := hr0 _ _ (by first | with_reducible assumption | exact rfl) (by first | with_reducible assumption | exact rfl); clear hr0) | (with_reducible refine at_list ?_; refine wpList_wide_g rfl rfl Try.underlying28 Try.underlying39 rfl ?_; intro r n hr0; have hr := hr0 _ (by first | with_reducible assumption | exact rfl); clear hr0) | (with_reducible refine at_list ?_; refine wpList_wide rfl rfl rfl Try.underlying28 Try.underlying39 ?_; intro r n hr0; have hr := hr0 _ (by first | with_reducible assumption | exact rfl); clear hr0))
      have HNE := Lib.hid HX.out.ne
      have HAP := Lib.hid HX.out.ap
      have HBK := Lib.hid (fun i hi => (HX.out.o i hi).block)
      have hxl : (L 3).length < 1048576 := by have := (HL.out 3 (by decide)).1; (first | rw [if_pos (by decide)] at this | rw [if_neg (by decide)] at this); omega
      have hpbw : pb < wr.heap.size := HX.out.d.2.2.2.2
      (apply wp_region_planL (F := (fun u => u.cell? ⟨pb, 3, none⟩ = some (X 3))) (fun u => RX4 pb sb (KK + 6) wA pb X L u ∧ wr.heap.size ≤ u.heap.size) (fun a c h hb => ⟨h.1.later hb, Nat.le_trans h.2 hb.size⟩); (case hW => exact (by exact ⟨HX.out, Nat.le_refl _⟩)); (case hF0 => exact (by (intro u hu; exact (hu.1.d.2.2.1 3 _ rfl).1))); ((apply wpG_det; (case hw => exact rfl); (case hs => (intro cs b h; cases h)); (case h1 => (intro w'; go_simp <;> exact rfl))); apply wpG_norm; (case ha => (simp only [Act.put, List.setIfInBounds_toArray, List.set_cons_zero, List.set_cons_succ]; exact rfl))); ((apply wpG_any; (case hw => exact rfl); (case h1 => (intro w' hb; go_simp <;> exact rfl))); apply wpG_norm; (case ha => (simp only [Act.put, List.setIfInBounds_toArray, List.set_cons_zero, List.set_cons_succ]; exact rfl))); ((apply wpG_det; (case hw => exact rfl); (case hs => (intro cs b h; cases h)); (case h1 => (intro w'; go_simp <;> exact rfl))); apply wpG_norm; (case ha => (simp only [Act.put, List.setIfInBounds_toArray, List.set_cons_zero, List.set_cons_succ]; exact rfl))); ((apply wpG_pickI (I' := fun u => RX4 pb sb (KK + 8) wA pb X L u ∧ wr.heap.size ≤ u.heap.size) (b := sb) (K := (KK + 6)) (n := 33) (fun a c h hb => ⟨h.1.later hb, Nat.le_trans h.2 hb.size⟩) (by omega) (by omega); (case hw => exact rfl); (case he => (intro w'; go_simp <;> first | exact rfl | exact ⟨rfl, rfl⟩)); (case hs => (intro u hu; exact hu.1.d.1)); (case hd => (intro u u' hu hg hs; exact ⟨hu.1.drawn hsb hg hs, Nat.le_trans hu.2 hg.size⟩)); intro m hm1 hm2; have e5 : IntKind.i64.wrap (m - 16) = m - 16 := i64_fit (by omega)); apply wpG_norm; (case ha => (simp only [Act.put, List.setIfInBounds_toArray, List.set_cons_zero, List.set_cons_succ]; exact rfl))); ((apply wpG_det; (case hw => exact rfl); (case hs => (intro cs b h; cases h)); (case h1 => (intro w'; go_simp <;> exact rfl))); apply wpG_norm; (case ha => (simp only [Act.put, List.setIfInBounds_toArray, List.set_cons_zero, List.set_cons_succ]; exact rfl))); ((apply wpG_det; (case hw => exact rfl); (case hs => (intro cs b h; cases h)); (case h1 => (intro w'; go_simp <;> exact rfl))); apply wpG_norm; (case ha => (simp only [Act.put, List.setIfInBounds_toArray, List.set_cons_zero, List.set_cons_succ]; exact rfl))); ((apply wpG_fop rfl rfl rfl rfl rfl; intro r hr0; have hr := hr0 _ _ (by first | with_reducible assumption | exact rfl) (by first | with_reducible assumption | exact rfl); clear hr0); apply wpG_norm; (case ha => (simp only [Act.put, List.setIfInBounds_toArray, List.set_cons_zero, List.set_cons_succ]; exact rfl))); ((apply wpG_lit1 (B := wr.heap.size) (x := .float .f32 r); (case hx => (first | exact rfl | (simp [Op.operands]; exact rfl))); (case hw => exact rfl); (case hB => (intro u h; exact h.2)); (case h1 => (intro w'; go_simp <;> exact rfl)); intro bl); apply wpG_norm; (case ha => (simp only [Act.put, List.setIfInBounds_toArray, List.set_cons_zero, List.set_cons_succ]; exact rfl))); ((apply wpG_appD pb wr.heap.size (L 3) (RDC 3) r (fun u => RO4 pb sb (KK + 8) wA pb X L 3 u) (fun a c h hb => h.later hb) (v := X 3) (b := bl); (case ho => exact rfl); (case hs => exact rfl); (case hx => exact rfl); (case hw => exact rfl); (case hR => exact rdc3 (by omega) hr); (case hk => (intro w' hi hd; exact ⟨⟨hi.1.o 3 (by decide), (hd.1.2 0 _ rfl).1⟩, Nat.le_trans (Nat.le_of_lt hpbw) hi.2, hi.2⟩)); (case hn => exact hxl); (case hI' => (intro a c hi hg; exact hi.1.app (by decide) hsb (by omega) hg)); intro q2 c2); apply wpG_norm; (case ha => (simp only [Act.put, List.setIfInBounds_toArray, List.set_cons_zero, List.set_cons_succ]; exact rfl))); ((apply wpG_det; (case hw => exact rfl); (case hs => (intro cs b h; cases h)); (case h1 => (intro w'; go_simp <;> exact rfl))); apply wpG_norm; (case ha => (simp only [Act.put, List.setIfInBounds_toArray, List.set_cons_zero, List.set_cons_succ]; exact rfl))); ((apply wpG_cellR (I' := RT4 pb sb (KK + 8) wA pb X L 3 wr.heap.size (RDC 3)) ⟨pb, 3, none⟩ (.slice q2 ((L 3).length + 1) c2) (fun a c h hb => RT4.later h hb); (case hw => exact rfl); (case h1 => (intro u hu; have y7 := (hu.1.2.2.1 3 _ rfl).1; have z7 := (hu.1.2.2.1 3 _ rfl).2; go_simp)); (case h2 => (intro u hu hd; obtain ⟨r9, h2, h3⟩ := hd.1; exact ⟨q2, c2, hu.put (by decide) hsb (by omega) (fun j h1 _ => HNE.out j h1) _, r9, h2, app_put4 h3 (HNE.out 3 (by decide)) hpbw⟩))); apply wpG_norm; (case ha => (simp only [Act.put, List.setIfInBounds_toArray, List.set_cons_zero, List.set_cons_succ]; exact rfl))); refine wpG_nil ?_; intro w' hi hkk)
      rotate_left
      case hFs => repeat' (first | exact trivial | (refine ⟨?_, ?_⟩) | (intro h; exact absurd (show (0 : Nat) = 3 from h.1) (by decide)) | (intro h; exact absurd (show (1 : Nat) = 3 from h.1) (by decide)) | (intro h; exact absurd (show (4 : Nat) = 3 from h.1) (by decide)) | (intro _ u hu; exact (hu.1.d.2.2.1 3 _ rfl).1) | (intro _ u hu; exact (hu.1.2.2.1 3 _ rfl).1) | (intro h; exact Bool.noConfusion (h.2.symm.trans (by kernel_rfl : _ = true))))
      all_goals (try (first | kernel_rfl | rfl))
      have HT := Lib.hid (RT4.all hi (by decide) HNE.out hpbw HAP.out (fun i hi k hk => (HBK.out i hi k hk).2))
      clear hi hkk yy
      obtain ⟨q2, c2, r9, hR9, hX9⟩ := HT.out
      have HL9 := Lib.hid (HL.out.step (by decide) hR9)
      have HX9 := Lib.hid hX9
      clear hX9 hR9 HT HX HL HNE HAP HBK hxl hpbw
      generalize up X 3 (.slice q2 (L 3 ++ [r9]).length c2) = X at HX9
      generalize up L 3 (L 3 ++ [r9]) = L at HX9 HL9
      rename Hid (RX4 _ _ _ _ _ _ _ _) => HX
      rename Hid (LI _ _ _) => HL
      rename World => wr
      have HX9 : Hid (RX4 pb sb (K + 2 + 8 * (k + 1)) wA pb X L wr) := by
        have e9 : KK + 8 = K + 2 + 8 * (k + 1) := by omega
        show RX4 _ _ _ _ _ _ _ _
        rw [← e9]; exact HX.out
      have HL9 : Hid (LI 0 (k + 1) L) := HL.out.next
      go_wp2_with (first | (with_reducible refine at_list ?_; refine wpList_fop rfl rfl rfl rfl rfl ?_; intro r n hr0; have hr := hr0 _ _ (by first | with_reducible assumption | exact rfl) (by first | with_reducible assumption | exact rfl); clear hr0) | (with_reducible refine at_list ?_; refine wpList_neg rfl rfl rfl ?_; intro r hr0; have hr := hr0 _ (by first | with_reducible assumption | exact rfl); clear hr0) | (with_reducible refine at_list ?_; refine wpList_fop_g rfl rfl rfl rfl rfl ?_; intro r n hr0; have hr := hr0 _ _ (by first | with_reducible assumption | exact rfl) (by first | with_reducible assumption | exact rfl); clear hr0) | (with_reducible refine at_list ?_; refine wpList_wide_g rfl rfl Try.underlying28 Try.underlying39 rfl ?_; intro r n hr0; have hr := hr0 _ (by first | with_reducible assumption | exact rfl); clear hr0) | (with_reducible refine at_list ?_; refine wpList_wide rfl rfl rfl Try.underlying28 Try.underlying39 ?_; intro r n hr0; have hr := hr0 _ (by first | with_reducible assumption | exact rfl); clear hr0))
      go_roundw
      case rel => exact ⟨k + 1, X, L, by omega, by go_num, HL9.out, HX9.out⟩
      case measure => simp [intOf]; omega
    · have hke : k = N := by omega
      subst hke
      have hpos2 : ¬ (0 : Int) < (k : Int) - k := by omega
      have HXw := HX.out.d.2.1
      have o := HX.out.d.2.2.1
      obtain ⟨a0, z0⟩ := o 0 _ rfl
      obtain ⟨a1, z1⟩ := o 1 _ rfl
      obtain ⟨a2, z2⟩ := o 2 _ rfl
      obtain ⟨a3, z3⟩ := o 3 _ rfl
      have hbl : wr.heap[b2]? = wA.heap[b2]? := HXw.block b2 (by omega) (.inr (by omega))
      obtain ⟨q0, f0⟩ := HRA.out 0 _ rfl
      obtain ⟨q1, f1⟩ := HRA.out 1 _ rfl
      obtain ⟨q2, f2⟩ := HRA.out 2 _ rfl
      obtain ⟨q3, f3⟩ := HRA.out 3 _ rfl
      replace q0 := (World.cell?_of_block (a := ⟨b2, 0, none⟩) hbl).trans q0
      replace q1 := (World.cell?_of_block (a := ⟨b2, 1, none⟩) hbl).trans q1
      replace q2 := (World.cell?_of_block (a := ⟨b2, 2, none⟩) hbl).trans q2
      replace q3 := (World.cell?_of_block (a := ⟨b2, 3, none⟩) hbl).trans q3
      replace f0 := (World.frozen?_of_block (a := ⟨b2, 0, none⟩) hbl).trans f0
      replace f1 := (World.frozen?_of_block (a := ⟨b2, 1, none⟩) hbl).trans f1
      replace f2 := (World.frozen?_of_block (a := ⟨b2, 2, none⟩) hbl).trans f2
      replace f3 := (World.frozen?_of_block (a := ⟨b2, 3, none⟩) hbl).trans f3
      have hne2 : pb ≠ b2 := by omega
      have HTW : Hid (Turn sb (sb + 1) w wr) := HGA.out.trans HXw
      have hbw : b2 < wr.heap.size := by have := HXw.size; omega
      have HSH : Hid (∀ i, i < 4 → ∃ q c, X i = .slice q (L i).length c) := fun i hi => (HX.out.o i hi).shape
      have HO := Lib.hid HX.out.o
      have HA := Lib.hid HX.out.ap
      obtain ⟨p0, c0, g0⟩ := HSH.out 0 (by decide)
      obtain ⟨p1, c1, g1⟩ := HSH.out 1 (by decide)
      obtain ⟨p2, c2, g2⟩ := HSH.out 2 (by decide)
      obtain ⟨p3, c3, g3⟩ := HSH.out 3 (by decide)
      have G := Lib.hid (And.intro g0 (And.intro g1 (And.intro g2 g3)))
      rw [g0] at a0
      rw [g1] at a1
      rw [g2] at a2
      rw [g3] at a3
      clear o hbl HXw g0 g1 g2 g3 HX
      go_wp2_with (first | (with_reducible refine at_list ?_; refine wpList_fop rfl rfl rfl rfl rfl ?_; intro r n hr0; have hr := hr0 _ _ (by first | with_reducible assumption | exact rfl) (by first | with_reducible assumption | exact rfl); clear hr0) | (with_reducible refine at_list ?_; refine wpList_neg rfl rfl rfl ?_; intro r hr0; have hr := hr0 _ (by first | with_reducible assumption | exact rfl); clear hr0) | (with_reducible refine at_list ?_; refine wpList_fop_g rfl rfl rfl rfl rfl ?_; intro r n hr0; have hr := hr0 _ _ (by first | with_reducible assumption | exact rfl) (by first | with_reducible assumption | exact rfl); clear hr0) | (with_reducible refine at_list ?_; refine wpList_wide_g rfl rfl Try.underlying28 Try.underlying39 rfl ?_; intro r n hr0; have hr := hr0 _ (by first | with_reducible assumption | exact rfl); clear hr0) | (with_reducible refine at_list ?_; refine wpList_wide rfl rfl rfl Try.underlying28 Try.underlying39 ?_; intro r n hr0; have hr := hr0 _ (by first | with_reducible assumption | exact rfl); clear hr0))
      refine bodyPost_ret (v := .agg #[.slice p0 (L 0).length c0, .slice p1 (L 1).length c1, .slice p2 (L 2).length c2, .slice p3 (L 3).length c3]) (by simp [results, Try.results33, go_sem, *]) rfl ?_
      have hg : w.heap.size ≤ b2 := by have := HB2.out; omega
      have hb2 := HB2.out
      refine ⟨k, X, ?_, hNb, L, HL.out, fun i hi => ?_, HA.out, ?_⟩
      · rw [G.out.1, G.out.2.1, G.out.2.2.1, G.out.2.2.2]
      · exact (((((HO.out i hi).setC (a := ⟨b2, 0, none⟩) (by show b2 < _; omega) _).setC (a := ⟨b2, 1, none⟩) (by show b2 < _; omega) _).setC (a := ⟨b2, 2, none⟩) (by show b2 < _; omega) _).setC (a := ⟨b2, 3, none⟩) (by show b2 < _; omega) _).base (by omega)
      · exact ((((HTW.out.set (ad := ⟨b2, 0, none⟩) hg _).set (ad := ⟨b2, 1, none⟩) hg _).set (ad := ⟨b2, 2, none⟩) hg _).set (ad := ⟨b2, 3, none⟩) hg _)
end Go.Proofs.Ytpnkapdemgieaaa
set_option linter.unusedSimpArgs false
set_option linter.unusedVariables false
set_option linter.unusedSectionVars false
namespace Go.Proofs.Ytpnkapdemgieaaa
open Go Go.RowKit
open Go.ChangeShapes Go.WideShapes Go.ChangeAt Go.RowKit Go.Joins
theorem RDC.q {i x : Nat} (hi : i ≠ 3) (h : RDC i x) : ∃ m : Int, V .f32 (cn .f32 x) ((m : Rat) / 4) ∧ 1 ≤ m ∧ m ≤ 8 := by
  obtain ⟨m, hm, hr⟩ := h
  rw [if_neg hi, if_neg hi] at hm
  rw [if_neg hi] at hr
  exact ⟨m, by rw [hr]; exact quarter_val (by omega), hm⟩
theorem RDC.h {x : Nat} (h : RDC 3 x) : ∃ m : Int, V .f32 (cn .f32 x) ((m : Rat) / 2) ∧ -16 ≤ m ∧ m ≤ 16 := by
  obtain ⟨m, hm, hr⟩ := h
  rw [if_pos rfl, if_pos rfl] at hm
  rw [if_pos rfl] at hr
  exact ⟨m, by rw [hr]; exact half_val (by omega), hm⟩
theorem LI.wr {n : Nat} {L : Nat → List Nat} (h : LI 0 n L) (hn : 1 ≤ n ∧ n ≤ 6) : ∃ A B C T : Nat → Int, WR ⟨L 0, L 1, L 2, L 3⟩ n A B C T := by
  have hl : ∀ i, i < 4 → (L i).length = n := fun i hi => by have := (h i hi).1; rwa [if_neg (by omega)] at this
  have q : ∀ i, i < 3 → ∀ j, ∃ m : Int, j < n → V .f32 (cn .f32 ((L i).getD j 0)) ((m : Rat) / 4) ∧ 1 ≤ m ∧ m ≤ 8 := fun i hi j => by
    by_cases hj : j < n
    · obtain ⟨m, hm⟩ := ((h i (by omega)).2 j (by rw [hl i (by omega)]; exact hj)).2.q (by omega)
      exact ⟨m, fun _ => hm⟩
    · exact ⟨0, fun e => absurd e hj⟩
  have t : ∀ j, ∃ m : Int, j < n → V .f32 (cn .f32 ((L 3).getD j 0)) ((m : Rat) / 2) ∧ -16 ≤ m ∧ m ≤ 16 := fun j => by
    by_cases hj : j < n
    · obtain ⟨m, hm⟩ := ((h 3 (by omega)).2 j (by rw [hl 3 (by omega)]; exact hj)).2.h
      exact ⟨m, fun _ => hm⟩
    · exact ⟨0, fun e => absurd e hj⟩
  exact ⟨fun j => (q 0 (by omega) j).choose, fun j => (q 1 (by omega) j).choose, fun j => (q 2 (by omega) j).choose, fun j => (t j).choose, ⟨hn.1, by omega⟩, hl 0 (by omega), hl 1 (by omega), hl 2 (by omega), hl 3 (by omega), fun j hj => (q 0 (by omega) j).choose_spec hj, fun j hj => (q 1 (by omega) j).choose_spec hj, fun j hj => (q 2 (by omega) j).choose_spec hj, fun j hj => (t j).choose_spec hj⟩
theorem LI.lt {n : Nat} {L : Nat → List Nat} (h : LI 0 n L) {i : Nat} (hi : i < 4) (j : Nat) : (L i).getD j 0 < 4294967296 := by
  by_cases e : j < (L i).length
  · exact ((h i hi).2 j e).1
  · rw [List.getD_eq_getElem?_getD, List.getElem?_eq_none (by omega)]; decide
set_option maxHeartbeats 4000000 in
theorem R8Rod_any (p : Option Addr) (n c : Nat) (w : World) (h : BY w.heap.size w p n c) (hn : n ≤ 1048576) : Calls Try.prog 7 #[.slice p n c] w (fun e w' => ∃ (N : Nat) (L : Nat → List Nat) (m : RL), e = .returned (.agg #[.slice m.p1 (L 0).length m.c1, .slice m.p2 (L 1).length m.c2, .slice m.p3 (L 2).length m.c3, .slice m.p4 (L 3).length m.c4]) ∧ (1 ≤ N ∧ N ≤ 6) ∧ LI 0 N L ∧ (Rd.mk (L 0) (L 1) (L 2) (L 3)).fs w' m ∧ Below w.heap.size w w') := by
  have H := Lib.hid h
  have HN := Lib.hid hn
  clear h hn
  go_enter Try.func7, Try.ntmps7
  go_wp2_with (first | (with_reducible refine at_list ?_; refine wpList_fop rfl rfl rfl rfl rfl ?_; intro r n hr0; have hr := hr0 _ _ (by first | with_reducible assumption | exact rfl) (by first | with_reducible assumption | exact rfl); clear hr0) | (with_reducible refine at_list ?_; refine wpList_neg rfl rfl rfl ?_; intro r hr0; have hr := hr0 _ (by first | with_reducible assumption | exact rfl); clear hr0) | (with_reducible refine at_list ?_; refine wpList_fop_g rfl rfl rfl rfl rfl ?_; intro r n hr0; have hr := hr0 _ _ (by first | with_reducible assumption | exact rfl) (by first | with_reducible assumption | exact rfl); clear hr0) | (with_reducible refine at_list ?_; refine wpList_wide_g rfl rfl Try.underlying28 Try.underlying39 rfl ?_; intro r n hr0; have hr := hr0 _ (by first | with_reducible assumption | exact rfl); clear hr0) | (with_reducible refine at_list ?_; refine wpList_wide rfl rfl rfl Try.underlying28 Try.underlying39 ?_; intro r n hr0; have hr := hr0 _ (by first | with_reducible assumption | exact rfl); clear hr0) | (go_at_call 32; refine (l00From_any _ _ _ _ ((H.out.later (C := w.heap.size) (by (repeat (first | (with_reducible exact Below.refl _ _) | (with_reducible assumption) | (with_reducible refine below_then ?_ (by assumption)) | (with_reducible refine Below.trans ?_ (by assumption)) | (with_reducible refine below_drewN ?_ _) | (with_reducible apply Below.drew) | (with_reducible refine below_alloc ?_ _) | refine Below.setCell ?_ (by first | (simp; done) | (simp; omega)) _))) (Nat.le_refl _)).mono (by first | omega | (simp; done) | (simp; omega))) HN.out).mono ?_; rintro e w' ⟨rfl, hb, hs⟩; (try simp only [World.size_alloc] at hs); have HS := Lib.hid hs; clear hs; obtain ⟨hT, hk⟩ := bv_next hb (by (repeat (with_reducible first | assumption | apply Trk.alloc | apply Trk.setCell | apply Trk.drewN | apply Trk.drew | exact Trk.nil _))); simp only [SameOn, World.size_alloc, World.size_setCell, World.size_drew, size_drewN', and_true] at hk; have hsz := Below.size hb; (try simp only [World.size_alloc, World.size_setCell, World.size_drew, size_drewN'] at hsz)) | (go_at_call 33; refine stop_here ?_))
  unfold Stop
  refine (l02DrawOk_any (w.heap.size + 1) 0 _ HS.out (by omega)).mono ?_
  rintro e w2 ⟨N, X, L, rfl, hNb, hL, hO, hA, hg⟩
  have hbs : w.heap.size < w'.heap.size := by omega
  have HL := Lib.hid hL
  have HO : Hid (∀ i, i < 4 → OF (w.heap.size + 1) w2 (X i) (L i)) := fun i hi => (hO i hi).base (show w.heap.size + 1 ≤ w'.heap.size by omega)
  have HSH : Hid (∀ i, i < 4 → ∃ q c, X i = .slice q (L i).length c) := fun i hi => (hO i hi).shape
  obtain ⟨p0, c0, g0⟩ := HSH.out 0 (by decide)
  obtain ⟨p1, c1, g1⟩ := HSH.out 1 (by decide)
  obtain ⟨p2, c2, g2⟩ := HSH.out 2 (by decide)
  obtain ⟨p3, c3, g3⟩ := HSH.out 3 (by decide)
  have O0 := Lib.hid (g0 ▸ HO.out 0 (by decide))
  have O1 := Lib.hid (g1 ▸ HO.out 1 (by decide))
  have O2 := Lib.hid (g2 ▸ HO.out 2 (by decide))
  have O3 := Lib.hid (g3 ▸ HO.out 3 (by decide))
  rw [g0, g1, g2, g3]
  clear HO HSH g0 g1 g2 g3 hO hA hL
  have hB : Below w.heap.size w w2 := (show Below w.heap.size w w' by (repeat (first | (with_reducible exact Below.refl _ _) | (with_reducible assumption) | (with_reducible refine below_then ?_ (by assumption)) | (with_reducible refine Below.trans ?_ (by assumption)) | (with_reducible refine below_drewN ?_ _) | (with_reducible apply Below.drew) | (with_reducible refine below_alloc ?_ _) | refine Below.setCell ?_ (by first | (simp; done) | (simp; omega)) _))).trans ⟨hg.os, hg.tape, hg.output, hg.size, fun k hk' => hg.block k (by omega) (.inl (by omega))⟩
  obtain ⟨hT2, hk2⟩ := turn_track hg (L := [w.heap.size]) (fun x hx => by simp at hx; omega) (by simp)
  simp only [SameOn, and_true] at hk2
  have hz2 := hg.size
  clear hg hb hT hT2
  go_wp2_with (first | (with_reducible refine at_list ?_; refine wpList_fop rfl rfl rfl rfl rfl ?_; intro r n hr0; have hr := hr0 _ _ (by first | with_reducible assumption | exact rfl) (by first | with_reducible assumption | exact rfl); clear hr0) | (with_reducible refine at_list ?_; refine wpList_neg rfl rfl rfl ?_; intro r hr0; have hr := hr0 _ (by first | with_reducible assumption | exact rfl); clear hr0) | (with_reducible refine at_list ?_; refine wpList_fop_g rfl rfl rfl rfl rfl ?_; intro r n hr0; have hr := hr0 _ _ (by first | with_reducible assumption | exact rfl) (by first | with_reducible assumption | exact rfl); clear hr0) | (with_reducible refine at_list ?_; refine wpList_wide_g rfl rfl Try.underlying28 Try.underlying39 rfl ?_; intro r n hr0; have hr := hr0 _ (by first | with_reducible assumption | exact rfl); clear hr0) | (with_reducible refine at_list ?_; refine wpList_wide rfl rfl rfl Try.underlying28 Try.underlying39 ?_; intro r n hr0; have hr := hr0 _ (by first | with_reducible assumption | exact rfl); clear hr0))
  refine bodyPost_ret (v := .agg #[.slice p0 (L 0).length c0, .slice p1 (L 1).length c1, .slice p2 (L 2).length c2, .slice p3 (L 3).length c3]) (by simp [results, Try.results7, go_sem, *]) rfl ?_
  have key : ∀ {v : Value} {xs : List Nat}, OF (w.heap.size + 1) w2 v xs → ∀ x0 x1 x2 x3 : Value, FS ((((w2.setCell ⟨w.heap.size, 0, none⟩ x0).setCell ⟨w.heap.size, 1, none⟩ x1).setCell ⟨w.heap.size, 2, none⟩ x2).setCell ⟨w.heap.size, 3, none⟩ x3) v xs := fun h x0 x1 x2 x3 => OF.fs ((((h.setC (a := ⟨w.heap.size, 0, none⟩) (Nat.lt_succ_self _) _).setC (a := ⟨w.heap.size, 1, none⟩) (Nat.lt_succ_self _) _).setC (a := ⟨w.heap.size, 2, none⟩) (Nat.lt_succ_self _) _).setC (a := ⟨w.heap.size, 3, none⟩) (Nat.lt_succ_self _) _)
  exact ⟨N, L, ⟨p0, c0, p1, c1, p2, c2, p3, c3⟩, rfl, hNb, HL.out, ⟨key O0.out _ _ _ _, key O1.out _ _ _ _, key O2.out _ _ _ _, key O3.out _ _ _ _⟩, by (repeat (first | (with_reducible exact Below.refl _ _) | (with_reducible assumption) | (with_reducible refine below_then ?_ (by assumption)) | (with_reducible refine Below.trans ?_ (by assumption)) | (with_reducible refine below_drewN ?_ _) | (with_reducible apply Below.drew) | (with_reducible refine below_alloc ?_ _) | refine Below.setCell ?_ (by first | (simp; done) | (simp; omega)) _))⟩
end Go.Proofs.Ytpnkapdemgieaaa
set_option linter.unusedSimpArgs false
set_option linter.unusedVariables false
set_option linter.unusedSectionVars false
namespace Go.Proofs.Ytpnkapdemgieaaa
open Go Go.RowKit
open Go.ChangeShapes Go.WideShapes Go.ChangeAt Go.RowKit Go.Joins
section
variable {H : Type} {enc : TypeId × Value → H} {P : Program} {w : World} {base : Nat} {spare : Nat → Bool} {held : Bool}
theorem open_u8s {t e : TypeId} {fuel : Nat} {cs : List Value} {x : DataW H × List MemPlace} (ht : P.underlying t = some (.slice e)) (he : P.underlying e = some (.int .u8)) (hc : P.cellsOf e = 1)
    (h : DataW.trod enc P w base spare held fuel t cs = some x) : ∃ p n c, cs = [.slice p n c] ∧ BY w.heap.size w p n c := by
  rcases Deep.open_slice1 ht hc h with ⟨rfl, _⟩ | ⟨a, len, cap, m, n, V, D, Pl, rfl, _, hl, hm, hmm, _, hx⟩
  · exact ⟨none, 0, 0, rfl, ⟨by omega, by omega⟩, fun i hi => absurd hi (by omega)⟩
  · have hlm : len ≤ m := by rw [hmm]; split <;> omega
    refine ⟨some a, len, cap, rfl, ⟨hl, by simpa [maxLen] using hm⟩, fun i hi => ?_⟩
    have h0 : a.spot = none := by
      have := spot_none (hx 0 (by omega)).1
      simpa [Addr.add] using this
    obtain ⟨b, o, sp⟩ := a
    have h0 : sp = none := h0
    subst h0
    obtain ⟨y, e1, _, e2⟩ := DataW.trod_int he (hx i (by omega)).2
    simp only [List.cons.injEq, and_true] at e1
    have h1 := (hx i (by omega)).1
    have e3 : (⟨b, o, none⟩ : Addr).add i = ⟨b, o + i, none⟩ := by
      unfold Addr.add
      split
      · rename_i h; subst h; rfl
      · rfl
    rw [e3, e1] at h1
    have hb := World.block_lt_of_cell? _ _ h1
    have hw : 0 ≤ y ∧ y ≤ 255 := by simpa [Lit.wf, IntKind.min, IntKind.max, IntKind.signed, IntKind.bits] using e2
    exact ⟨b, o, y, rfl, hb, h1, hw⟩
end
set_option maxRecDepth 100000 in
theorem Try.cellsU8 : Try.prog.cellsOf 5 = 1 := by kernel_rfl
set_option maxRecDepth 100000 in
theorem open_By {H : Type} {enc : TypeId × Value → H} {w : World} {base : Nat} {spare : Nat → Bool} {held : Bool} {r : Reach} {b0 : Nat} {v : Value} {d : DataW H} {p : List MemPlace} (hv : Value.okWide Try.prog w r b0 22 v) (h : DataW.Trod enc Try.prog w base spare held 22 v d p) :
    ∃ p n c, v = .slice p n c ∧ BY w.heap.size w p n c := by
  obtain ⟨fuel, hf⟩ := h
  obtain ⟨q, n, c, e, h1⟩ := open_u8s Try.underlying22 Try.underlying5 Try.cellsU8 hf
  obtain ⟨a, l, cc, rfl⟩ := okWide_slice Try.underlying22 hv
  simp [Value.cells] at e
  obtain ⟨rfl, rfl, rfl⟩ := e
  exact ⟨_, _, _, rfl, h1⟩
end Go.Proofs.Ytpnkapdemgieaaa
