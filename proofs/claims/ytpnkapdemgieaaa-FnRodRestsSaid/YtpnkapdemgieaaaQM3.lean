/-
  Draws: a number below a bound; a source made of bytes; bytes handed in. No condition but what each contract says.
  A statement whose order Go leaves open and in which a call, an append or a store turns memory that was there before: what holds of the world is told from one such operation to the next; one walk in the order of the text serves every order. No condition; nothing of the program is named here.
  Draws in a statement whose order Go leaves open; a source made of bytes; bytes handed in. No condition but what each contract says.
  What the statements draw: a stuff of small dyadic numbers. No condition but what each contract says.
  Drawn stuffs: how warm they are, how far molten, what heat that comes to: between bounds. No condition but what each law says.
  Rounding keeps order: no number of the format is nearer than the rounded one. No condition but what each law says; nothing of the program is named here.
  Rods: how they are opened to their cells. No condition but what each contract says.
  Rods: the laws' own helpers; which rods are valid (the program's and the reference's). No condition but what each contract says.
  Which rods are valid: the program's way. No condition but what each contract says.
  Which rods are valid: the reference's way. No condition but what each contract says.
  Half of a number: by two, or a half times. No condition.
  The middles of a rod's cells (the program's and the reference's). No condition but what each contract says.
  A list of numbers appended whole to an own slice; slices.Clone, and the reference's copy. No condition but what each contract says.
  Marks in rods of the call's own. No condition but what each contract says.
  Rods of the call's own that are made in a region that draws its order: four lists, made one behind the other. No condition but what each contract says.
-/
import Derived.Test.YtpnkapdemgieaaaQM2
import Derived.Test.YtpnkapdemgieaaaQM1
set_option linter.unusedSimpArgs false
set_option linter.unusedVariables false
set_option linter.unusedSectionVars false
namespace Go.Proofs.Ytpnkapdemgieaaa
open Go Go.RowKit
open Go.ChangeShapes Go.WideShapes Go.ChangeAt Go.RowKit Go.Joins
theorem rem_bd {x n : Int} (hx : 0 ≤ x) (hn : 1 ≤ n) : 0 ≤ x % n ∧ x % n ≤ n - 1 := ⟨Int.emod_nonneg _ (by omega), by have := Int.emod_lt_of_pos x (show 0 < n by omega); omega⟩
theorem Turn.then {B S : Nat} {a b c : World} (h : Turn B S a b) (h' : Turn B S b c) : Turn B S a c := h.trans h'
set_option maxHeartbeats 2000000 in
theorem pick_any (b K : Nat) (n : Int) (w : World) (h : SrcAt w b K) (hK : K ≤ 900000) (hn : 1 ≤ n ∧ n ≤ 1000000000) : Calls Try.prog 34 #[.pointer (some ⟨b, 0, none⟩), .int .i64 n] w (SP w b (K + 2) 0 (n - 1)) := by
  have HN := Lib.hid (fun (K : Nat) w h (hK : K ≤ 1000000) => next_any b K w h hK)
  have HS := Lib.hid h
  clear h
  obtain ⟨hn1, hn2⟩ := hn
  by_cases h1 : n ≤ 1
  · have he : n = 1 := by omega
    subst he
    go_enter Try.func34, Try.ntmps34
    go_wp2_with (first | (with_reducible refine at_list ?_; refine wpList_wide rfl rfl rfl Try.underlying28 Try.underlying39 ?_; intro r n hr0; have hr := hr0 _ (by first | with_reducible assumption | exact rfl); clear hr0))
    all_goals
      go_ret
      exact ⟨0, rfl, ⟨by omega, by omega⟩, Turn.refl _ _ _, rfl, HS.out.mono (by omega)⟩
  by_cases h2 : 200 < n
  · go_enter Try.func34, Try.ntmps34
    go_wp2_with (first | (go_at_call 70; first | (refine (HN.out _ _ HSa.out (by omega)).mono ?_; rintro e w2 ⟨r2, rfl, hr2, hg2, hz2, hs2⟩; have HSb := Lib.hid hs2; have HGb := Lib.hid hg2; have HZb := Lib.hid hz2; clear hs2 hg2 hz2) | (refine (HN.out _ _ HS.out (by omega)).mono ?_; rintro e w' ⟨r, rfl, hr, hg, hz, hs⟩; have HSa := Lib.hid hs; have HGa := Lib.hid hg; have HZa := Lib.hid hz; clear hs hg hz)))
    go_ret
    obtain ⟨hb1, hb2⟩ := rem_bd (x := r * 256 + r2) (n := n) (by omega) hn1
    exact ⟨_, rfl, ⟨by go_num, by go_num⟩, HGa.out.then HGb.out, HZb.out.trans HZa.out, HSb.out⟩
  · go_enter Try.func34, Try.ntmps34
    go_wp2_with (first | (go_at_call 70; first | (refine (HN.out _ _ HSa.out (by omega)).mono ?_; rintro e w2 ⟨r2, rfl, hr2, hg2, hz2, hs2⟩; have HSb := Lib.hid hs2; have HGb := Lib.hid hg2; have HZb := Lib.hid hz2; clear hs2 hg2 hz2) | (refine (HN.out _ _ HS.out (by omega)).mono ?_; rintro e w' ⟨r, rfl, hr, hg, hz, hs⟩; have HSa := Lib.hid hs; have HGa := Lib.hid hg; have HZa := Lib.hid hz; clear hs hg hz)))
    go_ret
    obtain ⟨hb1, hb2⟩ := rem_bd (x := r) (n := n) (by omega) hn1
    exact ⟨_, rfl, ⟨by go_num, by go_num⟩, HGa.out, HZa.out, HSa.out.mono (by omega)⟩
end Go.Proofs.Ytpnkapdemgieaaa
set_option linter.unusedSimpArgs false
set_option linter.unusedVariables false
set_option linter.unusedSectionVars false
namespace Go.Proofs.Ytpnkapdemgieaaa
open Go Go.RowKit
/-- A claim; of an operation that turns memory (mode 3) also what holds of every world from it on. Mode 4: it asks only what always holds, and nothing is told of it but its value. -/
structure GC where
  c : Clm
  I : World → Prop
  kept : ∀ w w', I w → Below w.heap.size w w' → I w'
def GC.of (c : Clm) : GC := ⟨c, fun _ => True, fun _ _ _ _ => trivial⟩
def invG (I : World → Prop) (g : GC) : World → Prop := match g.c.mode with | 3 => g.I | _ => I
def nextG (c : Clm) (i : Nat) (k : World → Prop) (ks : List (Nat × (World → Prop))) : List (Nat × (World → Prop)) :=
  match c.mode with | 0 => ks | 4 => ks | 3 => [(i, k)] | _ => (i, k) :: ks
section
variable {P : Program} {ops : Array Oper} {Q : Exit → Act → World → Prop} {F : World → Prop}
def stepG (P : Program) (ops : Array Oper) (F I : World → Prop) (o : Oper) (g : GC) (ks : List (Nat × (World → Prop))) (a : Act) : Prop :=
  (Region.wanted o (yielded ops a.tmps) = true ∧ (g.c.mode = 0 ∨ g.c.mode = 1 ∨ g.c.mode = 3 ∨ g.c.mode = 4) ∧
    (g.c.mode = 0 → ∀ w, uponC P (fun u w' => (∃ n, w' = w.drewN n) ∧ g.c.S (o.op.operands.toList.map a.eval) u) ((execOp a.eval o).run P w)) ∧
    (g.c.mode = 4 → (∀ x v w, g.c.K x v w) ∧ ∀ w, F w → uponC P (fun u w' => Below w.heap.size w w' ∧ g.c.S (o.op.operands.toList.map a.eval) u) ((execOp a.eval o).run P w)) ∧
    (g.c.mode = 1 → ∀ w, I w → depK o ks w → uponC P (fun u w' => Below w.heap.size w w' ∧ g.c.S (o.op.operands.toList.map a.eval) u ∧ g.c.K (oargs ops o a) u w') ((execOp a.eval o).run P w)) ∧
    (g.c.mode = 3 → ∀ w, I w → depK o ks w → uponC P (fun u w' => g.I w' ∧ g.c.S (o.op.operands.toList.map a.eval) u ∧ g.c.K (oargs ops o a) u w') ((execOp a.eval o).run P w))) ∨
  (Region.wanted o (yielded ops a.tmps) = false ∧ g.c.mode = 0 ∧ g.c.S (o.op.operands.toList.map a.eval) undef)
/-- The walk in the order of the text. -/
def wpG (P : Program) (ops : Array Oper) (Q : Exit → Act → World → Prop) (F : World → Prop) : (World → Prop) → List Oper → List GC → Nat → List (Nat × (World → Prop)) → Act → Prop
  | I, [], [], _, ks, a => ∀ w, I w → allK ks w → Q .normal a w
  | I, o :: l, g :: cs, i, ks, a => stepG P ops F I o g ks a ∧ ∀ v, g.c.S (o.op.operands.toList.map a.eval) v → wpG P ops Q F (invG I g) l cs (i + 1) (nextG g.c i (g.c.K (oargs ops o a) v) ks) (a.put o.dst v)
  | _, _, _, _, _, _ => False
/-- What holds of the world ahead of operation number j. -/
def Iat (I : World → Prop) : List GC → Nat → World → Prop
  | _, 0 => I
  | [], _ + 1 => I
  | g :: cs, j + 1 => Iat (invG I g) cs j
theorem Iat_zero (I : World → Prop) (cs : List GC) : Iat I cs 0 = I := by cases cs <;> rfl
theorem Iat_succ : ∀ (I : World → Prop) (cs : List GC) (j : Nat) (g : GC), cs[j]? = some g → Iat I cs (j + 1) = invG (Iat I cs j) g
  | I, [], j, g, h => by simp at h
  | I, g' :: cs, 0, g, h => by
    simp only [List.getElem?_cons_zero, Option.some.injEq] at h
    subst h
    show Iat (invG I g') cs 0 = invG (Iat I (g' :: cs) 0) g'
    rw [Iat_zero, Iat_zero]
  | I, g' :: cs, j + 1, g, h => by
    show Iat (invG I g') cs (j + 1) = invG (Iat (invG I g') cs j) g
    exact Iat_succ _ cs j g (by simpa using h)
theorem invG_ne {I : World → Prop} {g : GC} (h : g.c.mode ≠ 3) : invG I g = I := by
  unfold invG
  split
  · exact absurd (by assumption) h
  · rfl
theorem invG_eq {I : World → Prop} {g : GC} (h : g.c.mode = 3) : invG I g = g.I := by
  unfold invG
  split
  · rfl
  · exact absurd h (by assumption)
theorem Iat_over (I : World → Prop) (cs : List GC) : ∀ (d p : Nat), (∀ k g, p ≤ k → k < p + d → cs[k]? = some g → g.c.mode ≠ 3) → p + d ≤ cs.length → Iat I cs (p + d) = Iat I cs p
  | 0, _, _, _ => rfl
  | d + 1, p, h, hl => by
    have hg : cs[p + d]? = some cs[p + d] := List.getElem?_eq_getElem (by omega)
    rw [show p + (d + 1) = (p + d) + 1 by omega, Iat_succ _ _ _ _ hg, invG_ne (h (p + d) _ (by omega) (by omega) hg)]
    exact Iat_over I cs d p (fun k g h1 h2 => h k g h1 (by omega)) (by omega)
theorem Iat_kept {I : World → Prop} (hI : ∀ w w', I w → Below w.heap.size w w' → I w') : ∀ (cs : List GC) (j : Nat) (w w' : World), Iat I cs j w → Below w.heap.size w w' → Iat I cs j w'
  | cs, 0, w, w', h, hb => by rw [Iat_zero] at h ⊢; exact hI w w' h hb
  | [], j + 1, w, w', h, hb => hI w w' h hb
  | g :: cs, j + 1, w, w', h, hb => by
    refine Iat_kept (I := invG I g) (fun w w' h hb => ?_) cs j w w' h hb
    by_cases hm : g.c.mode = 3
    · rw [invG_eq hm] at h ⊢; exact g.kept w w' h hb
    · rw [invG_ne hm] at h ⊢; exact hI w w' h hb
theorem Iat_float {I F : World → Prop} (hI : ∀ w, I w → F w) : ∀ (cs : List GC) (j : Nat) (w : World), (∀ g ∈ cs, g.c.mode = 3 → ∀ w, g.I w → F w) → Iat I cs j w → F w
  | cs, 0, w, _, h => by rw [Iat_zero] at h; exact hI w h
  | [], j + 1, w, _, h => hI w h
  | g :: cs, j + 1, w, hg, h => by
    refine Iat_float (I := invG I g) (fun w h => ?_) cs j w (fun g' hg' => hg g' (List.mem_cons_of_mem _ hg')) h
    by_cases hm : g.c.mode = 3
    · rw [invG_eq hm] at h; exact hg g (by simp) hm w h
    · rw [invG_ne hm] at h; exact hI w h
/-- The claims that still stand. -/
def standsG (ops : Array Oper) (V : Nat → Value) (l : List Oper) (cs : List GC) (i : Nat) (a : Act) (w : World) (n : Nat) (X : Nat → Prop) : Prop :=
  ∀ (k : Nat) (o : Oper) (c : GC), k < n → l[k]? = some o → cs[k]? = some c → X (i + k) → (∀ (b : Nat) (cb : GC), k < b → b < n → cs[b]? = some cb → cb.c.mode ≠ 3) → c.c.K (opx ops V l i a k o) (V (i + k)) w
theorem standsG_tail {V : Nat → Value} {o : Oper} {l : List Oper} {c : GC} {cs : List GC} {i : Nat} {a : Act} {w : World} {n : Nat} {X : Nat → Prop} (h : standsG ops V (o :: l) (c :: cs) i a w (n + 1) X) : standsG ops V l cs (i + 1) (a.put o.dst (V i)) w n X := by
  intro k o' c' hk ho hc hX hb
  have := h (k + 1) o' c' (by omega) (by simpa using ho) (by simpa using hc) (by simpa [Nat.add_assoc, Nat.add_comm 1 k] using hX) (fun b cb h1 h2 h3 => by
    obtain ⟨b, rfl⟩ : ∃ b', b = b' + 1 := ⟨b - 1, by omega⟩
    exact hb b cb (by omega) (by omega) (by simpa using h3))
  rw [opx_succ] at this
  simpa [Nat.add_assoc, Nat.add_comm 1 k] using this
theorem nextG_dep {o : Oper} {c : Clm} {i : Nat} {k : World → Prop} {ks : List (Nat × (World → Prop))} {w : World} (h1 : depB o i = true → k w) (h2 : c.mode ≠ 3 → depK o ks w) : depK o (nextG c i k ks) w := by
  have h3 : (match depB o i with | true => k w | false => True) := by
    cases hd : depB o i with
    | false => trivial
    | true => exact h1 hd
  unfold nextG
  split
  · exact h2 (by omega)
  · exact h2 (by omega)
  · exact ⟨h3, trivial⟩
  · exact ⟨h3, h2 (by assumption)⟩
theorem nextG_all {c : Clm} {i : Nat} {k : World → Prop} {ks : List (Nat × (World → Prop))} {w : World} (h1 : k w) (h2 : c.mode ≠ 3 → allK ks w) : allK (nextG c i k ks) w := by
  unfold nextG
  split
  · exact h2 (by omega)
  · exact h2 (by omega)
  · exact ⟨h1, trivial⟩
  · exact ⟨h1, h2 (by assumption)⟩
def noBarG (cs : List GC) (n : Nat) : Prop := ∀ (b : Nat) (cb : GC), b < n → cs[b]? = some cb → cb.c.mode ≠ 3
def validG (V : Nat → Value) (l : List Oper) (cs : List GC) (i : Nat) (a : Act) : Prop := ∀ (k : Nat) (o : Oper) (c : GC), l[k]? = some o → cs[k]? = some c → c.c.S (opn V l i a k o) (V (i + k))
/-- What the walk in the order of the text has told of each operation. -/
theorem wpG_unroll {V : Nat → Value} : ∀ (I : World → Prop) (l : List Oper) (cs : List GC) (i : Nat) (ks : List (Nat × (World → Prop))) (a : Act), wpG P ops Q F I l cs i ks a → validG V l cs i a →
    (∀ j o, l[j]? = some o → ∃ c ks', cs[j]? = some c ∧ stepG P ops F (Iat I cs j) o c ks' (puts V (fun k => decide (k < i + j)) l i a) ∧ ∀ w, standsG ops V l cs i a w j (fun k => depB o k = true) → (noBarG cs j → depK o ks w) → depK o ks' w) ∧
    (∀ w, Iat I cs cs.length w → standsG ops V l cs i a w cs.length (fun _ => True) → (noBarG cs cs.length → allK ks w) → Q .normal (puts V (fun _ => true) l i a) w)
  | I, [], [], i, ks, a, h, hV => ⟨fun j o hj => by simp at hj, fun w hb _ hk => h w hb (hk fun b cb h1 => by simp at h1)⟩
  | I, [], c :: cs, i, ks, a, h, hV => (by unfold wpG at h; exact h.elim)
  | I, o :: l, [], i, ks, a, h, hV => (by unfold wpG at h; exact h.elim)
  | I, o :: l, c :: cs, i, ks, a, h, hV => by
    simp only [wpG] at h
    obtain ⟨h1, h2⟩ := h
    have hS := hV 0 o c (by simp) (by simp)
    rw [opn_zero] at hS
    have ih := wpG_unroll (invG I c) l cs (i + 1) _ (a.put o.dst (V i)) (h2 _ hS) (fun k o' c' ho hk => by
      have := hV (k + 1) o' c' (by simpa using ho) (by simpa using hk)
      rw [opn_succ] at this
      simpa [Nat.add_assoc, Nat.add_comm 1 k] using this)
    have bars : ∀ n, noBarG cs n → ∀ (b : Nat) (cb : GC), 0 < b → b < n + 1 → (c :: cs)[b]? = some cb → cb.c.mode ≠ 3 := fun n hn b cb h1 h2 h3 => by
      obtain ⟨b, rfl⟩ : ∃ b', b = b' + 1 := ⟨b - 1, by omega⟩
      exact hn b cb (by omega) (by simpa using h3)
    have bars' : ∀ n, noBarG cs n → c.c.mode ≠ 3 → noBarG (c :: cs) (n + 1) := fun n hn hc b cb h2 h3 => by
      cases b with
      | zero => simp at h3; subst h3; exact hc
      | succ b => exact hn b cb (by omega) (by simpa using h3)
    refine ⟨fun j o' hj => ?_, fun w hb hk hks => ?_⟩
    · cases j with
      | zero =>
        simp only [List.getElem?_cons_zero, Option.some.injEq] at hj
        subst hj
        refine ⟨c, ks, by simp, ?_, fun w _ hk => hk fun b cb h1 => by omega⟩
        rw [puts_none (o :: l) i a fun k hk => by simpa using hk]
        exact h1
      | succ j =>
        simp only [List.getElem?_cons_succ] at hj
        have e : i + (j + 1) = i + 1 + j := by omega
        have ep : puts V (fun k => decide (k < i + (j + 1))) (o :: l) i a = puts V (fun k => decide (k < i + 1 + j)) l (i + 1) (a.put o.dst (V i)) := by
          simp only [puts, e, show i < i + 1 + j by omega, decide_true, if_true]
        obtain ⟨c', ks', g1, g2, g3⟩ := ih.1 j o' hj
        refine ⟨c', ks', by simpa using g1, by rw [ep]; exact g2, fun w hw hk => g3 w (standsG_tail hw) fun hn => ?_⟩
        refine nextG_dep (fun hd => ?_) fun hc => hk (bars' _ hn hc)
        have := hw 0 o c (by omega) (by simp) (by simp) (by simpa using hd) (bars _ hn)
        rw [opx_zero] at this
        exact this
    · simp only [puts, if_true]
      refine ih.2 w hb (standsG_tail hk) fun hn => ?_
      refine nextG_all ?_ fun hc => hks (bars' _ hn hc)
      have := hk 0 o c (by simp) (by simp) (by simp) trivial (bars _ hn)
      rw [opx_zero] at this
      exact this
/-- What turns memory stands apart from all that asks the world. -/
def barG (ops : Array Oper) (ms : List Nat) : Bool := (List.range ops.size).all fun i => !(ms[i]? == some 3) || (List.range ops.size).all fun j => j == i || (ms[j]? == some 0) || (ms[j]? == some 4) ||
  (decide (j < i) && reachB ops 6 i j) || (decide (i < j) && reachB ops 6 j i)
theorem barG_spec {cs : List GC} (h : barG ops (cs.map (·.c.mode)) = true) {i j : Nat} {oi oj : Oper} {ci cj : GC} (hi : ops[i]? = some oi) (hj : ops[j]? = some oj) (hci : cs[i]? = some ci) (hcj : cs[j]? = some cj) (h2 : ci.c.mode = 3) (h0 : cj.c.mode ≠ 0) (h4 : cj.c.mode ≠ 4) (hne : j ≠ i) :
    (j < i ∧ reachB ops 6 i j = true) ∨ (i < j ∧ reachB ops 6 j i = true) := by
  have hlti : i < ops.size := (Array.getElem?_eq_some_iff.1 hi).1
  have hltj : j < ops.size := (Array.getElem?_eq_some_iff.1 hj).1
  have := List.all_eq_true.1 h i (List.mem_range.2 hlti)
  simp only [List.getElem?_map, hci, Option.map_some, h2, BEq.rfl, Bool.not_true, Bool.false_or] at this
  have := List.all_eq_true.1 this j (List.mem_range.2 hltj)
  simp only [hi, hj, hcj, Option.map_some, Option.getD_some, Bool.or_eq_true, Bool.and_eq_true, decide_eq_true_eq, beq_iff_eq, Option.some.injEq] at this
  rcases this with (((h | h) | h) | h) | h
  · exact absurd h hne
  · exact absurd h h0
  · exact absurd h h4
  · exact .inl h
  · exact .inr h
variable {cs : List GC} {a0 : Act}
theorem wpAny_planG (I0 : World → Prop) (hI0 : ∀ w w', I0 w → Below w.heap.size w w' → I0 w') (hF0 : ∀ w, I0 w → F w) (hFs : ∀ g ∈ cs, g.c.mode = 3 → ∀ w, g.I w → F w)
    (hB : planB ops = true) (hbar : barG ops (cs.map (·.c.mode)) = true) (hlen : cs.length = ops.size) (hw : wpG P ops Q F I0 ops.toList cs 0 [] a0) :
    ∀ (fuel : Nat) (listed : Array Bool) (a : Act) (w : World) (V : Nat → Value), listed.size = ops.size →
      (∀ (k : Nat) (o : Oper) (c : GC), listed.getD k false = true → ops[k]? = some o → cs[k]? = some c → c.c.S (opn V ops.toList 0 a0 k o) (V k)) →
      a = puts V (fun k => listed.getD k false) ops.toList 0 a0 →
      (∃ p, p ≤ cs.length ∧ (∀ k g, cs[k]? = some g → g.c.mode = 3 → (listed.getD k false = true ↔ k < p)) ∧ Iat I0 cs p w) →
      (∀ (k : Nat) (o : Oper) (c : GC), listed.getD k false = true → ops[k]? = some o → cs[k]? = some c → (∀ (b : Nat) (cb : GC), k < b → cs[b]? = some cb → listed.getD b false = true → cb.c.mode ≠ 3) → c.c.K (opx ops V ops.toList 0 a0 k o) (V k) w) →
      (∀ j o, ops[j]? = some o → listed.getD j false = true → ∀ k, depB o k = true → listed.getD k false = true) →
      cnt (fun k => listed.getD k false) ops.size ≤ fuel → wpAny P .any ops Q fuel listed a w := by
  obtain ⟨hsel, hpl⟩ := planB_spec hB
  have full : ∀ (listed : Array Bool) (a : Act) (w : World) (V : Nat → Value),
      (∀ (k : Nat) (o : Oper) (c : GC), listed.getD k false = true → ops[k]? = some o → cs[k]? = some c → c.c.S (opn V ops.toList 0 a0 k o) (V k)) → a = puts V (fun k => listed.getD k false) ops.toList 0 a0 →
      (∃ p, p ≤ cs.length ∧ (∀ k g, cs[k]? = some g → g.c.mode = 3 → (listed.getD k false = true ↔ k < p)) ∧ Iat I0 cs p w) →
      (∀ (k : Nat) (o : Oper) (c : GC), listed.getD k false = true → ops[k]? = some o → cs[k]? = some c → (∀ (b : Nat) (cb : GC), k < b → cs[b]? = some cb → listed.getD b false = true → cb.c.mode ≠ 3) → c.c.K (opx ops V ops.toList 0 a0 k o) (V k) w) →
      (∀ j, j < ops.size → listed.getD j false = true) → Q .normal a w := by
    intro listed a w V hV ha hb hK hall
    have hI : Iat I0 cs cs.length w := by
      obtain ⟨p, hp, h1, h2⟩ := hb
      have := Iat_over I0 cs (cs.length - p) p (fun k g hpk _ hg hm => by
        have hk := (h1 k g hg hm).1 (hall k (by have := (List.getElem?_eq_some_iff.1 hg).1; omega))
        omega) (by omega)
      rw [show p + (cs.length - p) = cs.length by omega] at this
      rw [this]; exact h2
    have := (wpG_unroll (V := V) I0 ops.toList cs 0 [] a0 hw (fun k o c ho hk => by
      have ho' : ops[k]? = some o := by simpa using ho
      simpa using hV k o c (hall k (Array.getElem?_eq_some_iff.1 ho').1) ho' hk)).2 w hI
      (fun k o c hlt ho hk _ hnb => by
        have ho' : ops[k]? = some o := by simpa using ho
        have := hK k o c (hall k (by omega)) ho' hk (fun b cb h1 h2 h3 => hnb b cb h1 (List.getElem?_eq_some_iff.1 h2).1 h2)
        simpa using this) (fun _ => trivial)
    rw [ha, puts_congr (V' := V) (D' := fun _ => true) ops.toList 0 a0 fun k _ h2 => ⟨hall k (by simpa using h2), fun _ => rfl⟩]
    exact this
  intro fuel
  induction fuel with
  | zero =>
    intro listed a w V hsz hV ha hb hK hdown hcnt
    have hall := cnt_zero (Nat.le_zero.1 hcnt)
    refine ⟨?_, full listed a w V hV ha hb hK hall⟩
    refine List.eq_nil_iff_forall_not_mem.2 fun j hj => ?_
    obtain ⟨h0, o, ho, _⟩ := mem_ready.1 hj
    have hlt : j < ops.size := (Array.getElem?_eq_some_iff.1 ho).1
    have := hall j hlt
    simp only [Array.getD_eq_getD_getElem?] at h0 this
    rw [Array.getElem?_eq_getElem (by omega)] at h0 this
    simp at h0 this
    rw [h0] at this; cases this
  | succ fuel ih =>
    intro listed a w V hsz hV ha hb hK hdown hcnt
    have conv : ∀ j, j < ops.size → listed.getD j true = listed.getD j false := fun j hj => by
      simp only [Array.getD_eq_getD_getElem?]
      rw [Array.getElem?_eq_getElem (by omega)]; rfl
    refine ⟨fun hnil => ?_, fun i hi => ?_⟩
    · have hall : ∀ j, j < ops.size → listed.getD j false = true := by
        intro j
        induction j using Nat.strongRecOn with
        | ind j ihj =>
          intro hj
          cases hl : listed.getD j false with
          | true => rfl
          | false =>
            have : j ∈ Region.ready .any ops listed := mem_ready.2 ⟨by rw [conv j hj]; exact hl, ops[j], Array.getElem?_eq_getElem hj, fun e he hbd => by
              have hd : depB ops[j] e.on = true := by
                rw [depB_iff]
                obtain ⟨k, hk, rfl⟩ := Array.mem_iff_getElem.1 he
                exact ⟨k, hk, by simp [hbd]⟩
              have hlt := (hpl j ops[j] (Array.getElem?_eq_getElem hj)).1 _ hd
              exact ihj _ hlt (by omega)⟩
            rw [hnil] at this; cases this
      exact full listed a w V hV ha hb hK hall
    · obtain ⟨h0, o, ho, hafter⟩ := mem_ready.1 hi
      have hlt : i < ops.size := (Array.getElem?_eq_some_iff.1 ho).1
      have h0' : listed.getD i false = false := by rw [← conv i hlt]; exact h0
      have hdeps : ∀ k, depB o k = true → listed.getD k false = true := fun k hk => by
        rw [depB_iff] at hk
        obtain ⟨q, hq, hk⟩ := hk
        simp only [Bool.and_eq_true, beq_iff_eq] at hk
        have := hafter o.after[q] (Array.getElem_mem hq) hk.2
        rw [hk.1] at this; exact this
      have hgo : ∀ j, (listed.setIfInBounds i true).getD j false = (j == i || listed.getD j false) := fun j => by
        by_cases hji : j = i
        · subst hji; simp [show j < listed.size by omega]
        · rw [getD_set_ne false (fun e => hji e.symm)]; simp [hji]
      obtain ⟨V1, hV1, hval0⟩ := extend (cs := cs.map (·.c)) (a0 := a0) hB V (fun k => listed.getD k false) hdown (fun k o c h1 h2 h3 => by
        rw [List.getElem?_map] at h3
        obtain ⟨g, hg, rfl⟩ := Option.map_eq_some_iff.1 h3
        exact hV k o g h1 h2 hg)
      have hval : validG V1 ops.toList cs 0 a0 := fun k o g h1 h2 => hval0 k o g.c h1 (by rw [List.getElem?_map, h2]; rfl)
      have hlook : ∀ t ∈ o.looksAt ops, (puts V1 (fun k => decide (k < 0 + i)) ops.toList 0 a0).tmps[t]? = a.tmps[t]? := fun t ht => by
        rw [ha]
        refine puts_look ops.toList 0 a0 a0 (fun k ok hk hd => ?_) rfl
        have hk' : ops[k]? = some ok := by simpa using hk
        simp only [Nat.zero_add]
        rcases ((hpl i o ho).2 k ok t hk' hd).1 ht with hdep | ⟨hik, hdep⟩
        · have h1 := (hpl i o ho).1 k hdep
          have h2 := hdeps k hdep
          exact ⟨by rw [h2]; simpa using h1, fun _ => hV1 k h2⟩
        · refine ⟨?_, fun hD => by simp at hD; omega⟩
          cases hl : listed.getD k false with
          | false => simp; omega
          | true => have := hdown k ok hk' hl i hdep; rw [h0'] at this; cases this
      obtain ⟨he, hwn⟩ := exec_look (ops := ops) (hsel i o · · ho) hlook
      have hoa : o.op.operands.toList.map (puts V1 (fun k => decide (k < 0 + i)) ops.toList 0 a0).eval = opn V ops.toList 0 a0 i o := opn_congr (V' := V) hB ho fun j hj => hV1 j (hdeps j hj)
      have hoax : oargs ops o (puts V1 (fun k => decide (k < 0 + i)) ops.toList 0 a0) = opx ops V ops.toList 0 a0 i o := opx_congr (V' := V) hB ho fun j hj => hV1 j (hdeps j hj)
      obtain ⟨c, ks', g1, g2, g3⟩ := (wpG_unroll (V := V1) I0 ops.toList cs 0 [] a0 hw hval).1 i o (by simpa using ho)
      have hi' : i < cs.length := (List.getElem?_eq_some_iff.1 g1).1
      have hks : c.c.mode ≠ 0 → c.c.mode ≠ 4 → depK o ks' w := fun hm0 hm4 => g3 w (fun k ok ck hki hok hck hd hnb => by
          have hok' : ops[k]? = some ok := by simpa using hok
          have hd' : depB o k = true := by simpa using hd
          have hDk := hdeps k hd'
          have := hK k ok ck hDk hok' hck (fun b cb hkb hcb hDb hm => by
            have hbl : b < cs.length := (List.getElem?_eq_some_iff.1 hcb).1
            have hob : ops[b]? = some ops[b] := Array.getElem?_eq_getElem (by omega)
            by_cases hbi : b < i
            · exact hnb b cb hkb hbi hcb hm
            · have hbne : i ≠ b := by rintro rfl; rw [h0'] at hDb; cases hDb
              rcases barG_spec hbar hob ho hcb g1 hm hm0 hm4 hbne with ⟨_, h⟩ | ⟨h, _⟩
              · have := reachB_down (D := fun k => listed.getD k false) hdown 6 b i h hDb
                rw [h0'] at this; cases this
              · omega)
          rw [opx_congr (V' := V) hB hok' fun j hj => hV1 j (hdown k ok hok' hDk j hj)]
          simpa [hV1 k hDk] using this) (fun _ => trivial)
      obtain ⟨p, hp, hp1, hp2⟩ := hb
      have hFw : F w := Iat_float hF0 cs p w hFs hp2
      /- ahead of an operation that asks the world those that turn memory are done just as far as the text -/
      have hbefore : c.c.mode ≠ 0 → c.c.mode ≠ 4 → ∀ k g, cs[k]? = some g → g.c.mode = 3 → (listed.getD k false = true ↔ k < i) := fun hm0 hm4 k g hg hm => by
        have hkl : k < cs.length := (List.getElem?_eq_some_iff.1 hg).1
        have hok : ops[k]? = some ops[k] := Array.getElem?_eq_getElem (by omega)
        constructor
        · intro hl
          rcases Nat.lt_or_ge k i with h | h
          · exact h
          · have hne : i ≠ k := by rintro rfl; rw [h0'] at hl; cases hl
            rcases barG_spec hbar hok ho hg g1 hm hm0 hm4 hne with ⟨_, h'⟩ | ⟨h', _⟩
            · have := reachB_down (D := fun k => listed.getD k false) hdown 6 k i h' hl
              rw [h0'] at this; cases this
            · omega
        · intro hki
          rcases barG_spec hbar hok ho hg g1 hm hm0 hm4 (by omega) with ⟨h', _⟩ | ⟨_, h'⟩
          · omega
          · unfold reachB at h'
            rw [ho] at h'
            simp only [Bool.or_eq_true] at h'
            rcases h' with h' | h'
            · exact hdeps k h'
            · obtain ⟨q, _, hq⟩ := List.any_eq_true.1 h'
              rw [Bool.and_eq_true] at hq
              exact reachB_down (D := fun k => listed.getD k false) hdown 5 q k hq.2 (hdeps q hq.1)
      have hIat : c.c.mode ≠ 0 → c.c.mode ≠ 4 → Iat I0 cs i w := fun hm0 hm4 => by
        have hb' := hbefore hm0 hm4
        rcases Nat.lt_or_ge p i with h | h
        · have := Iat_over I0 cs (i - p) p (fun k g h1 h2 hg hm => by
            have := (hp1 k g hg hm).1 ((hb' k g hg hm).2 (by omega)); omega) (by omega)
          rw [show p + (i - p) = i by omega] at this
          rw [this]; exact hp2
        · have := Iat_over I0 cs (p - i) i (fun k g h1 h2 hg hm => by
            have := (hb' k g hg hm).1 ((hp1 k g hg hm).2 (by omega)); omega) (by omega)
          rw [show i + (p - i) = p by omega] at this
          rw [← this]; exact hp2
      have next : ∀ u w', (c.c.mode ≠ 3 → Below w.heap.size w w') ∧ (c.c.mode = 3 → c.I w') ∧ c.c.S (opn V ops.toList 0 a0 i o) u ∧ c.c.K (opx ops V ops.toList 0 a0 i o) u w' → wpAny P .any ops Q fuel (listed.setIfInBounds i true) (a.put o.dst u) w' := by
          rintro u w' ⟨hbl, hbW, hSu, hKu⟩
          have opnU : ∀ k ok, ops[k]? = some ok → (k = i ∨ listed.getD k false = true) → opn (fun q => if q = i then u else V q) ops.toList 0 a0 k ok = opn V ops.toList 0 a0 k ok := fun k ok hok hk =>
            opn_congr hB hok fun j hj => by
              have : j ≠ i := by
                rintro rfl
                rcases hk with rfl | hk
                · have := (hpl k ok hok).1 k hj; omega
                · have := hdown k ok hok hk j hj
                  rw [h0'] at this; cases this
              simp [this]
          have opxU : ∀ k ok, ops[k]? = some ok → (k = i ∨ listed.getD k false = true) → opx ops (fun q => if q = i then u else V q) ops.toList 0 a0 k ok = opx ops V ops.toList 0 a0 k ok := fun k ok hok hk =>
            opx_congr hB hok fun j hj => by
              have : j ≠ i := by
                rintro rfl
                rcases hk with rfl | hk
                · have := (hpl k ok hok).1 k hj; omega
                · have := hdown k ok hok hk j hj
                  rw [h0'] at this; cases this
              simp [this]
          refine ih (listed.setIfInBounds i true) _ w' (fun k => if k = i then u else V k) (by simpa using hsz) (fun k ok c' hl hok hk => ?_) ?_ ?_ (fun k ok c' hl hok hk hnb => ?_) (fun j oj hj hl k hd => ?_) ?_
          · rw [hgo] at hl
            by_cases hki : k = i
            · subst hki
              rw [hk] at g1; cases g1
              rw [hok] at ho; cases ho
              rw [opnU k _ hok (.inl rfl)]
              simpa using hSu
            · have hl : listed.getD k false = true := by simpa [hki] using hl
              rw [opnU k ok hok (.inr hl)]
              simpa [hki] using hV k ok c' hl hok hk
          · rw [ha, puts_put ops.toList 0 i a0 (by simpa using ho) (by simpa using h0') (fun k o' hk hne d hd => ?_)]
            · exact puts_congr ops.toList 0 a0 fun k _ _ => ⟨by simp only [Nat.zero_add]; exact (hgo k).symm, fun _ => by simp⟩
            · exact ((hpl k o' (by simpa using hk)).2 i o d ho hd).2 hne
          · by_cases hm3 : c.c.mode = 3
            · refine ⟨i + 1, by omega, fun k g hg hm => ?_, ?_⟩
              · rw [hgo]
                have := hbefore (by omega) (by omega) k g hg hm
                by_cases hki : k = i
                · subst hki; simp
                · simp only [beq_iff_eq, hki, Bool.or_eq_true, false_or]
                  rw [this]; omega
              · rw [Iat_succ _ _ _ _ g1, invG_eq hm3]; exact hbW hm3
            · refine ⟨p, hp, fun k g hg hm => ?_, Iat_kept hI0 cs p w w' hp2 (hbl hm3)⟩
              rw [hgo]
              by_cases hki : k = i
              · subst hki
                rw [hg] at g1; cases g1
                exact absurd hm hm3
              · simp only [beq_iff_eq, hki, Bool.or_eq_true, false_or]
                exact hp1 k g hg hm
          · by_cases hki : k = i
            · subst hki
              rw [hk] at g1; cases g1
              rw [hok] at ho; cases ho
              rw [opxU k _ hok (.inl rfl)]
              simpa using hKu
            · rw [hgo] at hl
              have hl : listed.getD k false = true := by simpa [hki] using hl
              rw [opxU k ok hok (.inr hl)]
              simp only [if_neg hki]
              by_cases hm0 : c'.c.mode = 0
              · exact c'.c.quiet hm0 _ _ _
              · by_cases hm4 : c'.c.mode = 4
                · obtain ⟨c4, ks4, q1, q2, _⟩ := (wpG_unroll (V := V1) I0 ops.toList cs 0 [] a0 hw hval).1 k ok (by simpa using hok)
                  rw [hk] at q1; cases q1
                  rcases q2 with ⟨_, _, _, q4, _⟩ | ⟨_, q0, _⟩
                  · exact (q4 hm4).1 _ _ _
                  · exact absurd q0 hm0
                · by_cases hm2 : c.c.mode = 3
                  · exfalso
                    rcases barG_spec hbar ho hok g1 hk hm2 hm0 hm4 hki with ⟨h, _⟩ | ⟨_, h⟩
                    · exact hnb i c h g1 (by rw [hgo]; simp) hm2
                    · have := reachB_down (D := fun k => listed.getD k false) hdown 6 k i h hl
                      rw [h0'] at this; cases this
                  · exact c'.c.keeps _ _ _ _ (hK k ok c' hl hok hk fun b cb h1 h2 h3 => hnb b cb h1 h2 (by rw [hgo, h3]; simp)) (hbl hm2)
          · rw [hgo] at hl ⊢
            by_cases hji : j = i
            · subst hji
              rw [hj] at ho; cases ho
              rw [hdeps k hd]; simp
            · have : listed.getD j false = true := by simpa [hji] using hl
              rw [hdown j oj hj this k hd]; simp
          · have := cnt_set (f := fun k => listed.getD k false) (g := fun k => (listed.setIfInBounds i true).getD k false) (i := i) h0' (by simp only [hgo]; simp) (fun j hj => by simp only [hgo]; simp [hj]) hlt
            omega
      unfold wpOp
      simp only [ho]
      unfold stepG at g2
      rw [hoa, hoax] at g2
      rcases g2 with ⟨k1, km, k0, k4, k5, k3⟩ | ⟨k1, k2, k3⟩
      · rw [← hwn, k1, if_pos rfl]
        rcases km with hm | hm | hm | hm
        · refine .inl (uponC_op (T := fun u w' => (∃ n, w' = w.drewN n) ∧ c.c.S (opn V ops.toList 0 a0 i o) u) (fun u w' hT => ?_) ?_)
          · obtain ⟨⟨n, rfl⟩, hS⟩ := hT
            exact next u _ ⟨fun _ => below_drewN (Below.refl _ _) _, fun h => by omega, hS, c.c.quiet hm _ _ _⟩
          · rw [← he]; exact k0 hm w
        · refine .inl (uponC_op (T := fun u w' => Below w.heap.size w w' ∧ c.c.S (opn V ops.toList 0 a0 i o) u ∧ c.c.K (opx ops V ops.toList 0 a0 i o) u w') (fun u w' hT => next u w' ⟨fun _ => hT.1, fun h => by omega, hT.2⟩) ?_)
          rw [← he]; exact k5 hm w (hIat (by omega) (by omega)) (hks (by omega) (by omega))
        · refine .inl (uponC_op (T := fun u w' => c.I w' ∧ c.c.S (opn V ops.toList 0 a0 i o) u ∧ c.c.K (opx ops V ops.toList 0 a0 i o) u w') (fun u w' hT => next u w' ⟨fun h => absurd hm h, fun _ => hT.1, hT.2⟩) ?_)
          rw [← he]; exact k3 hm w (hIat (by omega) (by omega)) (hks (by omega) (by omega))
        · refine .inl (uponC_op (T := fun u w' => Below w.heap.size w w' ∧ c.c.S (opn V ops.toList 0 a0 i o) u) (fun u w' hT => next u w' ⟨fun _ => hT.1, fun h => by omega, hT.2, (k4 hm).1 _ _ _⟩) ?_)
          rw [← he]; exact (k4 hm).2 w hFw
      · rw [← hwn, k1, if_neg (by simp)]
        exact next undef w ⟨fun _ => Below.refl _ _, fun h => by omega, k3, c.c.quiet k2 _ _ _⟩
/-- What always holds follows from each operation that turns memory. -/
def allF (F : World → Prop) : List GC → Prop
  | [] => True
  | g :: cs => (match g.c.mode with | 3 => ∀ w, g.I w → F w | _ => True) ∧ allF F cs
theorem allF_mem {F : World → Prop} : ∀ {cs : List GC}, allF F cs → ∀ g ∈ cs, g.c.mode = 3 → ∀ w, g.I w → F w
  | [], _, g, hg, _, _, _ => by cases hg
  | g' :: cs, h, g, hg, hm, w, hw => by
    rcases List.mem_cons.1 hg with rfl | hg
    · have h1 := h.1
      rw [hm] at h1
      exact h1 w hw
    · exact allF_mem h.2 g hg hm w hw
/-- ONE WALK OF THE ORDER OF THE TEXT SERVES EVERY ORDER. -/
theorem wp_region_planG {id : Nat} {a : Act} {W : World} {l : List Oper} {cs : List GC} (I0 : World → Prop) (hI0 : ∀ w w', I0 w → Below w.heap.size w w' → I0 w') (hW : I0 W) (hF0 : ∀ w, I0 w → F w)
    (hw : wpG P l.toArray Q F I0 l cs 0 [] a) (hFs : allF F cs) (hpr1 : P.follows .mixedOrders = true) (hpr2 : planB l.toArray = true) (hpr3 : barG l.toArray (cs.map (·.c.mode)) = true) (hlen : cs.length = l.length) : (Code.region id l.toArray true).wp P Q a W := by
  have hsz : l.toArray.size = l.length := by simp
  refine wp_region_any hpr1 ?_
  refine wpAny_planG (cs := cs) (a0 := a) I0 hI0 hF0 (allF_mem hFs) hpr2 hpr3 (by omega) (by simpa using hw) _ _ _ _ (fun _ => undef) (by simp) ?_ ?_ ?_ ?_ ?_ ?_
  · intro k o c hl
    exfalso
    simp only [Array.getD_eq_getD_getElem?] at hl
    by_cases hk : k < l.length <;> simp [hk] at hl
  · refine (puts_none _ _ _ fun k _ => ?_).symm
    simp only [Array.getD_eq_getD_getElem?]
    by_cases hk : k < l.length <;> simp [hk]
  · refine ⟨0, Nat.zero_le _, fun k g _ _ => ?_, ?_⟩
    · simp only [Array.getD_eq_getD_getElem?]
      by_cases hk : k < l.length <;> simp [hk]
    · rw [Iat_zero]; exact hI0 W _ hW ((Below.refl _ _).drew)
  · intro k o c hl
    exfalso
    simp only [Array.getD_eq_getD_getElem?] at hl
    by_cases hk : k < l.length <;> simp [hk] at hl
  · intro j o _ hl
    exfalso
    simp only [Array.getD_eq_getD_getElem?] at hl
    by_cases hk : j < l.length <;> simp [hk] at hl
  · have : ∀ (f : Nat → Bool) (n : Nat), cnt f n ≤ n := by
      intro f n
      induction n with
      | zero => exact Nat.le_refl _
      | succ n ih => simp only [cnt]; split <;> omega
    exact this _ _
end
section
variable {P : Program} {ops : Array Oper} {Q : Exit → Act → World → Prop} {F I : World → Prop} {l : List Oper} {cs : List GC} {i : Nat} {ks : List (Nat × (World → Prop))} {a : Act} {o : Oper}
theorem wpG_norm {a' : Act} (ha : a = a') (h : wpG P ops Q F I l cs i ks a') : wpG P ops Q F I l cs i ks a := ha ▸ h
theorem wpG_nil (h : ∀ w, I w → allK ks w → Q .normal a w) : wpG P ops Q F I [] [] i ks a := h
theorem wpG_pure (c : Clm) (hm : c.mode = 0) (hw : Region.wanted o (yielded ops a.tmps) = true) (h0 : ∀ w, uponC P (fun u w' => (∃ n, w' = w.drewN n) ∧ c.S (o.op.operands.toList.map a.eval) u) ((execOp a.eval o).run P w))
    (h : ∀ v, c.S (o.op.operands.toList.map a.eval) v → wpG P ops Q F I l cs (i + 1) ks (a.put o.dst v)) : wpG P ops Q F I (o :: l) (GC.of c :: cs) i ks a := by
  simp only [wpG]
  refine ⟨.inl ⟨hw, .inl hm, fun _ => h0, fun h => ?_, fun h => ?_, fun h => ?_⟩, fun v hv => ?_⟩
  · have : c.mode = 4 := h; omega
  · have : c.mode = 1 := h; omega
  · have : c.mode = 3 := h; omega
  · have e1 : invG I (GC.of c) = I := invG_ne (by show c.mode ≠ 3; omega)
    have e2 : nextG (GC.of c).c i ((GC.of c).c.K (oargs ops o a) v) ks = ks := by
      show nextG c i _ ks = ks
      unfold nextG
      split
      · rfl
      · rfl
      · omega
      · rename_i h0 _ _; exact absurd hm h0
    rw [e1, e2]; exact h v hv
theorem wpG_det (v : Value) (hw : Region.wanted o (yielded ops a.tmps) = true) (hs : ∀ cs b, o.op ≠ .select cs b) (h1 : ∀ w, (execOp a.eval o).run P w = .ok (.value v) w)
    (h : wpG P ops Q F I l cs (i + 1) ks (a.put o.dst v)) : wpG P ops Q F I (o :: l) (GC.of (Clm.det P o) :: cs) i ks a := by
  have hp : PureAt P o (o.op.operands.toList.map a.eval) v := ⟨⟨a, rfl⟩, fun a' w he => by
    rw [execOp_congr (ρ := a'.eval) (ρ' := a.eval) o hs fun x hx => ?_]
    · exact h1 w
    · have := List.map_inj_left.1 he x (by simpa using hx)
      exact this⟩
  refine wpG_pure (Clm.det P o) rfl hw (fun w => ?_) fun u hu => ?_
  · rw [h1 w]; exact ⟨⟨0, rfl⟩, fun u hu => hp.uniq hu⟩
  · rw [hu v hp]; exact h
theorem wpG_fop {op : BinOp} {t t' : TypeId} {X Y : Operand} (ho : o.op = .binOp op t X Y t') (hop : arithOp op = true) {k : FloatKind} {x y : Nat} (hx : a.eval X = .float k x) (hy : a.eval Y = .float k y) (hw : Region.wanted o (yielded ops a.tmps) = true)
    (h : ∀ r, (∀ cx cy, cn k x = cx → cn k y = cy → cn k r = Go.Proofs.Ytpnkapdemgieaaa.fop op k cx cy) → wpG P ops Q F I l cs (i + 1) ks (a.put o.dst (.float k r))) : wpG P ops Q F I (o :: l) (GC.of (Clm.fop op) :: cs) i ks a := by
  have hl : o.op.operands.toList.map a.eval = [.float k x, .float k y] := by rw [ho]; simp [Op.operands, hx, hy]
  refine wpG_pure (Clm.fop op) rfl hw (fun w => ?_) fun u hu => ?_
  · obtain ⟨r, n, h1, h2⟩ := run_exec_fop (P := P) op hop t t' X Y ho k x y hx hy w
    rw [h1, hl]
    refine ⟨⟨n, rfl⟩, fun k' p' q' e => ?_⟩
    simp only [List.cons.injEq, Value.float.injEq, and_true] at e
    obtain ⟨⟨rfl, rfl⟩, _, rfl⟩ := e
    exact ⟨r, rfl, h2⟩
  · rw [hl] at hu
    obtain ⟨r, rfl, hr⟩ := hu k x y rfl
    exact h r (by rintro cx cy rfl rfl; exact hr)
theorem wpG_one (c : Clm) (hm : c.mode = 1) (hw : Region.wanted o (yielded ops a.tmps) = true) (h1 : ∀ w, I w → depK o ks w → uponC P (fun u w' => Below w.heap.size w w' ∧ c.S (o.op.operands.toList.map a.eval) u ∧ c.K (oargs ops o a) u w') ((execOp a.eval o).run P w))
    (h : ∀ v, c.S (o.op.operands.toList.map a.eval) v → wpG P ops Q F I l cs (i + 1) ((i, c.K (oargs ops o a) v) :: ks) (a.put o.dst v)) : wpG P ops Q F I (o :: l) (GC.of c :: cs) i ks a := by
  simp only [wpG]
  refine ⟨.inl ⟨hw, .inr (.inl hm), fun h => ?_, fun h => ?_, fun _ => h1, fun h => ?_⟩, fun v hv => ?_⟩
  · have : c.mode = 0 := h; omega
  · have : c.mode = 4 := h; omega
  · have : c.mode = 3 := h; omega
  · have e1 : invG I (GC.of c) = I := invG_ne (by show c.mode ≠ 3; omega)
    have e2 : nextG (GC.of c).c i ((GC.of c).c.K (oargs ops o a) v) ks = (i, c.K (oargs ops o a) v) :: ks := by
      show nextG c i _ ks = _
      unfold nextG
      split <;> first | omega | rfl
    rw [e1, e2]; exact h v hv
/-- A load of what never turns. -/
def Clm.any (v : Value) : Clm := ⟨4, fun _ u => u = v, fun _ _ _ => True, fun _ => ⟨v, rfl⟩, fun _ _ _ _ _ _ => trivial, fun h => nomatch h⟩
theorem wpG_any (v : Value) (hw : Region.wanted o (yielded ops a.tmps) = true) (h1 : ∀ w, F w → (execOp a.eval o).run P w = .ok (.value v) w)
    (h : wpG P ops Q F I l cs (i + 1) ks (a.put o.dst v)) : wpG P ops Q F I (o :: l) (GC.of (Clm.any v) :: cs) i ks a := by
  simp only [wpG]
  refine ⟨.inl ⟨hw, .inr (.inr (.inr rfl)), fun h => absurd (show (4 : Nat) = 0 from h) (by decide), fun _ => ⟨fun _ _ _ => trivial, fun w hF => ?_⟩, fun h => absurd (show (4 : Nat) = 1 from h) (by decide), fun h => absurd (show (4 : Nat) = 3 from h) (by decide)⟩, fun u hu => ?_⟩
  · rw [h1 w hF]; exact ⟨Below.refl _ _, rfl⟩
  · have hu : u = v := hu
    subst hu; exact h
/-- An operation that turns memory, with one value. -/
def GC.turn (v : Value) (I' K : World → Prop) (hI : ∀ w w', I' w → Below w.heap.size w w' → I' w') (hK : ∀ w w', K w → Below w.heap.size w w' → K w') : GC :=
  ⟨⟨3, fun _ u => u = v, fun _ _ w => K w, fun _ => ⟨v, rfl⟩, fun _ _ w w' h hb => hK w w' h hb, fun h => nomatch h⟩, I', hI⟩
theorem wpG_turn (v : Value) (I' K : World → Prop) (hI : ∀ w w', I' w → Below w.heap.size w w' → I' w') (hK : ∀ w w', K w → Below w.heap.size w w' → K w') (hw : Region.wanted o (yielded ops a.tmps) = true)
    (h1 : ∀ w, I w → depK o ks w → ∃ w', (execOp a.eval o).run P w = .ok (.value v) w' ∧ I' w' ∧ K w') (h : wpG P ops Q F I' l cs (i + 1) [(i, K)] (a.put o.dst v)) : wpG P ops Q F I (o :: l) (GC.turn v I' K hI hK :: cs) i ks a := by
  simp only [wpG]
  refine ⟨.inl ⟨hw, .inr (.inr (.inl rfl)), fun h => absurd (show (3 : Nat) = 0 from h) (by decide), fun h => absurd (show (3 : Nat) = 4 from h) (by decide), fun h => absurd (show (3 : Nat) = 1 from h) (by decide), fun _ w hi hk => ?_⟩, fun u hu => ?_⟩
  · obtain ⟨w', e, h2, h3⟩ := h1 w hi hk
    rw [e]; exact ⟨h2, rfl, h3⟩
  · have hu : u = v := hu
    subst hu; exact h
/-- A call that turns memory. -/
theorem wpG_turnC (c : Clm) (hm : c.mode = 3) (I' : World → Prop) (hI : ∀ w w', I' w → Below w.heap.size w w' → I' w') (hw : Region.wanted o (yielded ops a.tmps) = true) {f : FuncId} {args : Array Value} (he : ∀ w, (execOp a.eval o).run P w = .ok (.enter f args) w)
    (h1 : ∀ w, I w → depK o ks w → Calls P f args w (fun e w' => ∃ v, e = .returned v ∧ I' w' ∧ c.S (o.op.operands.toList.map a.eval) v ∧ c.K (oargs ops o a) v w'))
    (h : ∀ v, c.S (o.op.operands.toList.map a.eval) v → wpG P ops Q F I' l cs (i + 1) [(i, c.K (oargs ops o a) v)] (a.put o.dst v)) : wpG P ops Q F I (o :: l) (⟨c, I', hI⟩ :: cs) i ks a := by
  simp only [wpG]
  refine ⟨.inl ⟨hw, .inr (.inr (.inl hm)), fun h => ?_, fun h => ?_, fun h => ?_, fun _ w hi hk => ?_⟩, fun v hv => ?_⟩
  · have : c.mode = 0 := h; omega
  · have : c.mode = 4 := h; omega
  · have : c.mode = 1 := h; omega
  · rw [he w]
    exact Calls.mono (h1 w hi hk) fun e w' ⟨v, e1, h2⟩ => ⟨v, e1, h2⟩
  · have e1 : invG I ⟨c, I', hI⟩ = I' := invG_eq hm
    have e2 : nextG c i (c.K (oargs ops o a) v) ks = [(i, c.K (oargs ops o a) v)] := by
      unfold nextG
      split <;> first | omega | exact absurd hm (by assumption) | rfl
    show wpG P ops Q F (invG I ⟨c, I', hI⟩) l cs (i + 1) (nextG c i (c.K (oargs ops o a) v) ks) _
    rw [e1, e2]; exact h v hv
end
attribute [irreducible] wpG
end Go.Proofs.Ytpnkapdemgieaaa
set_option linter.unusedSimpArgs false
set_option linter.unusedVariables false
set_option linter.unusedSectionVars false
namespace Go.Proofs.Ytpnkapdemgieaaa
open Go Go.RowKit
open Go.ChangeShapes Go.WideShapes Go.ChangeAt Go.RowKit Go.Joins
theorem i64_fit {n : Int} (h : -9223372036854775808 ≤ n ∧ n ≤ 9223372036854775807) : IntKind.i64.wrap n = n := by
  simp [IntKind.wrap, IntKind.bits, IntKind.signed]
  omega
def Clm.pick (hi : Int) : Clm := ⟨3, fun _ v => ∃ r, v = .int .i64 r ∧ (0 ≤ hi → 0 ≤ r ∧ r ≤ hi), fun _ _ _ => True, fun _ => ⟨_, 0, rfl, fun h => ⟨by omega, h⟩⟩, fun _ _ _ _ _ _ => trivial, fun h => nomatch h⟩
theorem SrcAt.lt {w : World} {b K : Nat} (h : SrcAt w b K) : b < w.heap.size := by
  obtain ⟨p, n, c, k, s, ⟨h1, _⟩, _⟩ := h
  exact World.block_lt_of_cell? _ _ h1
section
variable {ops : Array Oper} {Q : Exit → Act → World → Prop} {F : World → Prop}
variable {l : List Oper} {cs : List GC} {i : Nat} {ks : List (Nat × (World → Prop))} {a : Act} {o : Oper}
end
theorem l00From_any (p : Option Addr) (n c : Nat) (w : World) (h : BY w.heap.size w p n c) (hn : n ≤ 1048576) : Calls Try.prog 32 #[.slice p n c] w (fun e w' => e = .returned (.pointer (some ⟨w.heap.size, 0, none⟩)) ∧ Below w.heap.size w w' ∧ SrcAt w' w.heap.size 0) := by
  have H := Lib.hid h
  clear h
  go_enter Try.func32, Try.ntmps32
  go_wp2_with (first | (with_reducible refine at_list ?_; refine wpList_wide rfl rfl rfl Try.underlying28 Try.underlying39 ?_; intro r n hr0; have hr := hr0 _ (by first | with_reducible assumption | exact rfl); clear hr0))
  all_goals
    go_ret
    refine ⟨rfl, by (repeat (first | (with_reducible exact Below.refl _ _) | (with_reducible assumption) | (with_reducible refine below_then ?_ (by assumption)) | (with_reducible refine Below.trans ?_ (by assumption)) | (with_reducible refine below_drewN ?_ _) | (with_reducible apply Below.drew) | (with_reducible refine below_alloc ?_ _) | refine Below.setCell ?_ (by first | (simp; done) | (simp; omega)) _)), p, n, c, 0, 0, ⟨by go_simp, by go_simp, by go_simp⟩, ⟨by go_simp, by go_simp⟩, H.out.later (C := w.heap.size) (by (repeat (first | (with_reducible exact Below.refl _ _) | (with_reducible assumption) | (with_reducible refine below_then ?_ (by assumption)) | (with_reducible refine Below.trans ?_ (by assumption)) | (with_reducible refine below_drewN ?_ _) | (with_reducible apply Below.drew) | (with_reducible refine below_alloc ?_ _) | refine Below.setCell ?_ (by first | (simp; done) | (simp; omega)) _))) (Nat.le_refl _), hn, ⟨by omega, by omega⟩, by omega, by omega⟩
end Go.Proofs.Ytpnkapdemgieaaa
set_option linter.unusedSimpArgs false
set_option linter.unusedVariables false
set_option linter.unusedSectionVars false
namespace Go.Proofs.Ytpnkapdemgieaaa
open Go Go.RowKit
open Go.ChangeShapes Go.WideShapes Go.ChangeAt Go.RowKit Go.Joins
theorem Turn.set {B S : Nat} {a b : World} (h : Turn B S a b) {ad : Addr} (hb : a.heap.size ≤ ad.block) (v : Value) : Turn B S a (b.setCell ad v) :=
  ⟨h.os, h.tape, h.output, by rw [World.size_setCell]; exact h.size, fun k hk hr => (Below.heap_setCell _ _ _ _ (by omega)).trans (h.block k hk hr)⟩
theorem wf_lt {x : Nat} (h : (Lit.float .f32 x).wf = true) : x < 4294967296 := by simpa [Lit.wf] using h
theorem fop_lt (op : BinOp) (x y : Nat) : fop op .f32 x y < 4294967296 := by
  unfold fop
  cases h : floatBits op .f32 x y with
  | none => decide +kernel
  | some r => exact wf_lt (floatBits_wf h)
theorem raw_lt {x c : Nat} (h : cn .f32 x = c) (hf : fnt .f32 c = true) (hc : c < 4294967296) : x < 4294967296 := by
  cases hn : isN .f32 x with
  | true =>
    rw [cn_of_isN hn] at h
    subst h
    have : fnt .f32 (qn .f32) = false := by decide +kernel
    rw [this] at hf; cases hf
  | false =>
    rw [cn_of_not hn] at h
    rw [h]; exact hc
end Go.Proofs.Ytpnkapdemgieaaa
set_option linter.unusedSimpArgs false
set_option linter.unusedVariables false
set_option linter.unusedSectionVars false
namespace Go.Proofs.Ytpnkapdemgieaaa
open Go Go.RowKit
theorem rnd_err {f : Ieee.Format} {v r : Rat} {Q : Int} (h : Rnd f v r) (h1 : v ≤ tp Q) (h2 : -v ≤ tp Q) (hQ : f.leastPlace ≤ Q - f.fractionBits) : r - v ≤ tp (Q - f.fractionBits - 1) ∧ v - r ≤ tp (Q - f.fractionBits - 1) := by
  obtain ⟨last, k, hl, hr, e1, e2, h3⟩ := h
  have hle : tp last ≤ tp (Q - f.fractionBits) := by
    rcases h3 with h3 | h3 | h3
    · exact tp_le (by omega)
    · exact tp_le (by have := le_of_tp (Rat.le_trans h3 h1); omega)
    · exact tp_le (by have := le_of_tp (Rat.le_trans h3 h2); omega)
  have e : tp (Q - f.fractionBits) = 2 * tp (Q - f.fractionBits - 1) := by
    have := tp_succ (Q - f.fractionBits - 1)
    rw [show Q - (f.fractionBits : Int) - 1 + 1 = Q - f.fractionBits by omega] at this
    exact this
  constructor <;> grind
theorem tp7 : tp 7 = 128 := (tp_nat 7).trans rfl
theorem V.fin {x : Nat} {q : Rat} (h : V .f32 x q) : fin .f32 x = true := by rw [fin_num]; exact h.1
theorem abv_of {x : Nat} (h : fnt .f32 x = true) (h0 : 0 < fv .f32 x) : abv x = true := by
  have e : fgt .f32 x (cn .f32 0) = true := by
    rw [fgtv h V0.1, V0.2]
    exact decide_eq_true h0
  have hf : fin .f32 x = true := by rw [fin_num]; exact h
  have := abv_neg x
  rw [hf, flev h V0.1, V0.2] at this
  simp only [Bool.not_true, Bool.false_or] at this
  have h2 : decide (fv .f32 x ≤ 0) = false := decide_eq_false (by grind)
  rw [h2] at this
  simpa using this.symm
/-- What is known of a drawn stuff's canonical words. -/
structure SV (s : St) (a b c d p l : Int) : Prop where
  bd : (1 ≤ a ∧ a ≤ 8) ∧ (1 ≤ b ∧ b ≤ 8) ∧ (1 ≤ c ∧ c ≤ 8) ∧ (1 ≤ d ∧ d ≤ 8) ∧ (-4 ≤ p ∧ p ≤ 4) ∧ (1 ≤ l ∧ l ≤ 16)
  A : V .f32 s.k.a ((a : Rat) / 2)
  B : V .f32 s.k.b ((b : Rat) / 2)
  C : V .f32 s.k.c ((c : Rat) / 4)
  D : V .f32 s.k.d ((d : Rat) / 4)
  P : V .f32 s.k.p (p : Rat)
  L : V .f32 s.k.l ((l : Rat) / 2)
theorem icast_le {a b : Int} (h : a ≤ b) : (a : Rat) ≤ (b : Rat) := by exact_mod_cast h
theorem SV.ok {s : St} {a b c d p l : Int} (h : SV s a b c d p l) : s.ok = true := by
  obtain ⟨⟨h1, _⟩, ⟨h2, _⟩, ⟨h3, _⟩, ⟨h4, _⟩, _, ⟨h6, _⟩⟩ := h.bd
  have pos : ∀ {n : Int}, 1 ≤ n → (1 : Rat) ≤ (n : Rat) := fun {n} h => icast_le h
  have q1 := pos h1; have q2 := pos h2; have q3 := pos h3; have q4 := pos h4; have q6 := pos h6
  have e1 : abv (cn .f32 s.a) = true := abv_of h.A.1 (by rw [show fv .f32 (cn .f32 s.a) = _ from h.A.2]; grind)
  have e2 : abv (cn .f32 s.b) = true := abv_of h.B.1 (by rw [show fv .f32 (cn .f32 s.b) = _ from h.B.2]; grind)
  have e3 : abv (cn .f32 s.c) = true := abv_of h.C.1 (by rw [show fv .f32 (cn .f32 s.c) = _ from h.C.2]; grind)
  have e4 : abv (cn .f32 s.d) = true := abv_of h.D.1 (by rw [show fv .f32 (cn .f32 s.d) = _ from h.D.2]; grind)
  have e5 : fin .f32 (cn .f32 s.p) = true := h.P.fin
  have e6 : abv (cn .f32 s.l) = true := abv_of h.L.1 (by rw [show fv .f32 (cn .f32 s.l) = _ from h.L.2]; grind)
  unfold St.ok
  rw [e1, e2, e3, e4, e5, e6]
  rfl
section
variable {s : St} {a b c d p l k : Int} {H : Nat}
end
end Go.Proofs.Ytpnkapdemgieaaa
set_option linter.unusedSimpArgs false
set_option linter.unusedVariables false
set_option linter.unusedSectionVars false
namespace Go.Proofs.Ytpnkapdemgieaaa
open Go Go.RowKit
/-- A number of a format. -/
def Rp (f : Ieee.Format) (r : Rat) : Prop := ∃ z q : Int, z.natAbs < 2 ^ (f.fractionBits + 1) ∧ f.leastPlace ≤ q ∧ r = z * tp q
theorem Rp.neg {f : Ieee.Format} {r : Rat} (h : Rp f r) : Rp f (-r) := by
  obtain ⟨z, q, h1, h2, rfl⟩ := h
  exact ⟨-z, q, by omega, h2, by rw [Rat.intCast_neg]; grind⟩
theorem rp_word {k : FloatKind} {x : Nat} (h : fnt k x = true) : Rp k.format (fv k x) := by
  unfold fnt at h
  cases e : k.format.read x with
  | number s m p =>
    obtain ⟨g1, g2, g3⟩ := read_bd _ e
    refine ⟨if s then -(m : Int) else m, p, by split <;> omega, g2, ?_⟩
    rw [(fv_of e).2]
    cases s
    · simp only [sg, Bool.false_eq_true, if_false, Rat.intCast_natCast]; grind
    · simp only [sg, if_true, Rat.intCast_neg, Rat.intCast_natCast]; grind
  | _ => rw [e] at h; simp [isNum] at h
end Go.Proofs.Ytpnkapdemgieaaa
set_option linter.unusedSimpArgs false
set_option linter.unusedVariables false
set_option linter.unusedSectionVars false
namespace Go.Proofs.Ytpnkapdemgieaaa
open Go Go.RowKit
open Go.ChangeShapes Go.WideShapes Go.ChangeAt Go.RowKit Go.Joins
/-- What a rod tells; where its lists lie. -/
structure Rd where
  a : List Nat
  b : List Nat
  c : List Nat
  d : List Nat
structure RL where
  p1 : Option Addr
  c1 : Nat
  p2 : Option Addr
  c2 : Nat
  p3 : Option Addr
  c3 : Nat
  p4 : Option Addr
  c4 : Nat
def Rd.fs (P : Rd) (w : World) (l : RL) : Prop := FS w (.slice l.p1 P.a.length l.c1) P.a ∧ FS w (.slice l.p2 P.b.length l.c2) P.b ∧ FS w (.slice l.p3 P.c.length l.c3) P.c ∧ FS w (.slice l.p4 P.d.length l.c4) P.d
def Rd.own (P : Rd) (B : Nat) (w : World) (l : RL) : Prop := OF B w (.slice l.p1 P.a.length l.c1) P.a ∧ OF B w (.slice l.p2 P.b.length l.c2) P.b ∧ OF B w (.slice l.p3 P.c.length l.c3) P.c ∧ OF B w (.slice l.p4 P.d.length l.c4) P.d
/-- A rod's cells in memory. -/
def RdAt (P : Rd) (l : RL) (w : World) (b o : Nat) : Prop := w.cell? ⟨b, o, none⟩ = some (.slice l.p1 P.a.length l.c1) ∧ w.cell? ⟨b, o + 1, none⟩ = some (.slice l.p2 P.b.length l.c2) ∧ w.cell? ⟨b, o + 2, none⟩ = some (.slice l.p3 P.c.length l.c3) ∧ w.cell? ⟨b, o + 3, none⟩ = some (.slice l.p4 P.d.length l.c4)
def Rd.wf (P : Rd) : Prop := (∀ j, P.a.getD j 0 < 4294967296) ∧ (∀ j, P.b.getD j 0 < 4294967296) ∧ (∀ j, P.c.getD j 0 < 4294967296) ∧ ∀ j, P.d.getD j 0 < 4294967296
section
variable {P : Rd} {B : Nat} {w w' : World} {l : RL}
theorem Rd.fs.later (h : P.fs w l) (hb : Below w.heap.size w w') : P.fs w' l := ⟨h.1.later hb, h.2.1.later hb, h.2.2.1.later hb, h.2.2.2.later hb⟩
theorem Rd.own.later (h : P.own B w l) (hb : Below w.heap.size w w') : P.own B w' l := ⟨h.1.later hb, h.2.1.later hb, h.2.2.1.later hb, h.2.2.2.later hb⟩
theorem Rd.own.base {B' : Nat} (h : P.own B w l) (hB : B' ≤ B) : P.own B' w l := ⟨h.1.base hB, h.2.1.base hB, h.2.2.1.base hB, h.2.2.2.base hB⟩
theorem Rd.own.fs (h : P.own B w l) : P.fs w l := ⟨h.1.fs, h.2.1.fs, h.2.2.1.fs, h.2.2.2.fs⟩
theorem Rd.own.setCell (h : P.own B w l) {a : Addr} (ha : a.block < B) (v : Value) : P.own B (w.setCell a v) l := ⟨h.1.setCell ha v, h.2.1.setCell ha v, h.2.2.1.setCell ha v, h.2.2.2.setCell ha v⟩
theorem Rd.own.alloc (h : P.own B w l) (o : Obj) : P.own B (w.alloc o) l := ⟨h.1.alloc o, h.2.1.alloc o, h.2.2.1.alloc o, h.2.2.2.alloc o⟩
theorem Rd.own.drewN (h : P.own B w l) (n : Nat) : P.own B (w.drewN n) l := ⟨h.1.drewN n, h.2.1.drewN n, h.2.2.1.drewN n, h.2.2.2.drewN n⟩
end
def rdV (P : Rd) (l : RL) : Value := .agg #[.slice l.p1 P.a.length l.c1, .slice l.p2 P.b.length l.c2, .slice l.p3 P.c.length l.c3, .slice l.p4 P.d.length l.c4]
theorem rdV_inj {P : Rd} {l m : RL} (h : rdV P l = rdV P m) : l = m := by
  obtain ⟨⟩ := l
  obtain ⟨⟩ := m
  simp [rdV] at h
  simp [h]
/-- In a plan: a call that hands back a rod of its own. -/
def Clm.rod (P : Rd) (B : Nat) : Clm := ⟨1, fun _ v => ∃ l, v = rdV P l, fun _ v w => ∀ l, v = rdV P l → P.own B w l, fun _ => ⟨_, ⟨none, 0, none, 0, none, 0, none, 0⟩, rfl⟩,
  fun _ v w w' h hb u e => (h u e).later hb, fun h => nomatch h⟩
end Go.Proofs.Ytpnkapdemgieaaa
set_option linter.unusedSimpArgs false
set_option linter.unusedVariables false
set_option linter.unusedSectionVars false
namespace Go.Proofs.Ytpnkapdemgieaaa
open Go Go.RowKit
open Go.ChangeShapes Go.WideShapes Go.ChangeAt Go.RowKit Go.Joins
def Rd.size (P : Rd) : Nat := P.a.length + P.b.length + P.c.length + P.d.length
def finL (xs : List Nat) : Bool := !xs.any fun x => !fin .f32 (cn .f32 x)
def posL (xs : List Nat) : Bool := !xs.any fun x => !fin .f32 (cn .f32 x) || fle .f32 (cn .f32 x) (cn .f32 0)
/-- Is a rod valid. -/
def Rd.sized (P : Rd) : Bool := decide (1 ≤ P.a.length) && (decide (P.a.length ≤ 48) && (decide (P.b.length = P.a.length) && (decide (P.c.length = P.a.length) && decide (P.d.length = P.a.length))))
def Rd.ok (P : Rd) : Bool := P.sized && (posL P.a && (posL P.b && (posL P.c && finL P.d)))
theorem Rd.ok_len {P : Rd} (h : P.ok = true) : (1 ≤ P.a.length ∧ P.a.length ≤ 48) ∧ P.b.length = P.a.length ∧ P.c.length = P.a.length ∧ P.d.length = P.a.length := by
  unfold Rd.ok Rd.sized at h
  simp only [Bool.and_eq_true, decide_eq_true_eq] at h
  exact ⟨⟨h.1.1, h.1.2.1⟩, h.1.2.2.1, h.1.2.2.2.1, h.1.2.2.2.2⟩
def Ap (p q : Option Addr) : Prop := ∀ a b, p = some a → q = some b → a.block ≠ b.block
theorem Ap.of {p q : Option Addr} {n c m d s : Nat} (h1 : ∀ k, (Value.slice p n c).ownBlock = some k → k < s) (h2 : ∀ k, (Value.slice q m d).ownBlock = some k → s ≤ k) : Ap p q := by
  rintro a b rfl rfl
  have := h1 a.block rfl
  have := h2 b.block rfl
  omega
theorem Ap.row {p q : Option Addr} {n c m d : Nat} (h : Ap p q) : (Value.slice p n c).ownBlock = none ∨ (Value.slice p n c).ownBlock ≠ (Value.slice q m d).ownBlock := by
  cases p with
  | none => exact .inl rfl
  | some a =>
    refine .inr fun e => ?_
    cases q with
    | none => cases e
    | some b => exact h a b rfl rfl (by simpa [Value.ownBlock] using e)
theorem Ap.symm {p q : Option Addr} (h : Ap p q) : Ap q p := fun a b h1 h2 e => h b a h2 h1 e.symm
/-- A rod of the call's own. -/
def RdX (B S : Nat) (w : World) (P : Rd) (l : RL) : Prop :=
  (P.own B w l ∧ (∀ k, (Value.slice l.p1 P.a.length l.c1).ownBlock = some k → k < S) ∧ (∀ k, (Value.slice l.p2 P.b.length l.c2).ownBlock = some k → k < S) ∧ (∀ k, (Value.slice l.p3 P.c.length l.c3).ownBlock = some k → k < S) ∧ ∀ k, (Value.slice l.p4 P.d.length l.c4).ownBlock = some k → k < S) ∧
    Ap l.p1 l.p2 ∧ Ap l.p1 l.p3 ∧ Ap l.p1 l.p4 ∧ Ap l.p2 l.p3 ∧ Ap l.p2 l.p4 ∧ Ap l.p3 l.p4
section
variable {B S : Nat} {w w' : World} {P : Rd} {l : RL}
theorem RdX.mk' (y : P.own B w l) (x12 : Ap l.p1 l.p2) (x13 : Ap l.p1 l.p3) (x14 : Ap l.p1 l.p4) (x23 : Ap l.p2 l.p3) (x24 : Ap l.p2 l.p4) (x34 : Ap l.p3 l.p4) : RdX B w.heap.size w P l :=
  ⟨⟨y, fun k hk => (OF.block y.1 k hk).2, fun k hk => (OF.block y.2.1 k hk).2, fun k hk => (OF.block y.2.2.1 k hk).2, fun k hk => (OF.block y.2.2.2 k hk).2⟩, x12, x13, x14, x23, x24, x34⟩
theorem RdX.own (h : RdX B S w P l) : P.own B w l := h.1.1
theorem RdX.fs (h : RdX B S w P l) : P.fs w l := h.1.1.fs
theorem RdX.later (h : RdX B S w P l) (hb : Below w.heap.size w w') : RdX B S w' P l := ⟨⟨h.1.1.later hb, h.1.2⟩, h.2⟩
theorem RdX.alloc (h : RdX B S w P l) (o : Obj) : RdX B S (w.alloc o) P l := ⟨⟨h.1.1.alloc o, h.1.2⟩, h.2⟩
theorem RdX.drewN (h : RdX B S w P l) (m : Nat) : RdX B S (w.drewN m) P l := ⟨⟨h.1.1.drewN m, h.1.2⟩, h.2⟩
theorem RdX.setCell (h : RdX B S w P l) {a : Addr} (ha : a.block < B ∨ S ≤ a.block) (v : Value) : RdX B S (w.setCell a v) P l :=
  ⟨⟨⟨(RX.setCell ⟨h.1.1.1, h.1.2.1⟩ ha v).1, (RX.setCell ⟨h.1.1.2.1, h.1.2.2.1⟩ ha v).1, (RX.setCell ⟨h.1.1.2.2.1, h.1.2.2.2.1⟩ ha v).1, (RX.setCell ⟨h.1.1.2.2.2, h.1.2.2.2.2⟩ ha v).1⟩, h.1.2⟩, h.2⟩
theorem RdX.turn {B' S' : Nat} (h : RdX B S w P l) (hg : Turn B' S' w w') (hd : S ≤ B' ∨ S' ≤ B) : RdX B S w' P l :=
  ⟨⟨⟨(RX.turn ⟨h.1.1.1, h.1.2.1⟩ hg hd).1, (RX.turn ⟨h.1.1.2.1, h.1.2.2.1⟩ hg hd).1, (RX.turn ⟨h.1.1.2.2.1, h.1.2.2.2.1⟩ hg hd).1, (RX.turn ⟨h.1.1.2.2.2, h.1.2.2.2.2⟩ hg hd).1⟩, h.1.2⟩, h.2⟩
theorem RdAt.grown {b o : Nat} {row : Option Nat} (h : RdAt P l w b o) (hg : w.grownBy w' row) (hne : some b ≠ row) : RdAt P l w' b o :=
  ⟨hg.cell h.1 hne, hg.cell h.2.1 hne, hg.cell h.2.2.1 hne, hg.cell h.2.2.2 hne⟩
end
end Go.Proofs.Ytpnkapdemgieaaa
set_option linter.unusedSimpArgs false
set_option linter.unusedVariables false
set_option linter.unusedSectionVars false
namespace Go.Proofs.Ytpnkapdemgieaaa
open Go Go.RowKit
open Go.ChangeShapes Go.WideShapes Go.ChangeAt Go.RowKit Go.Joins
set_option maxHeartbeats 4000000 in
set_option maxRecDepth 100000 in
theorem implValidRod_any (P : Rd) (l : RL) (w : World) (hs : P.fs w l) : Calls Try.prog 35 #[.agg #[.slice l.p1 P.a.length l.c1, .slice l.p2 P.b.length l.c2, .slice l.p3 P.c.length l.c3, .slice l.p4 P.d.length l.c4]] w (BV w (.bool P.ok)) := by
  have HS := Lib.hid hs
  clear hs
  by_cases g1 : (P.a.length : Int) < 1
  · have HE : Hid (P.ok = false) := by show _ = _; simp [Rd.ok, Rd.sized]; omega
    go_enter Try.func35, Try.ntmps35
    go_wp2_with (first | (go_at_call 45; refine ((arePositive_any P.a _ _ (HS.out.1.later (by (repeat (first | (with_reducible exact Below.refl _ _) | (with_reducible assumption) | (with_reducible refine below_then ?_ (by assumption)) | (with_reducible refine Below.trans ?_ (by assumption)) | (with_reducible refine below_drewN ?_ _) | (with_reducible apply Below.drew) | (with_reducible refine below_alloc ?_ _) | refine Below.setCell ?_ (by first | (simp; done) | (simp; omega)) _))))) ).mono ?_; rintro e w' ⟨rfl, n, rfl⟩) | (go_at_call 44; refine ((areFinite_any P.d _ _ (HS.out.2.2.2.later (by (repeat (first | (with_reducible exact Below.refl _ _) | (with_reducible assumption) | (with_reducible refine below_then ?_ (by assumption)) | (with_reducible refine Below.trans ?_ (by assumption)) | (with_reducible refine below_drewN ?_ _) | (with_reducible apply Below.drew) | (with_reducible refine below_alloc ?_ _) | refine Below.setCell ?_ (by first | (simp; done) | (simp; omega)) _))))) ).mono ?_; rintro e w' ⟨rfl, n, rfl⟩))
    all_goals
      go_ret
      exact ⟨by (first | (rw [HE.out]; rfl) | rw [HE.out]), by (repeat (first | (with_reducible exact Below.refl _ _) | (with_reducible assumption) | (with_reducible refine below_then ?_ (by assumption)) | (with_reducible refine Below.trans ?_ (by assumption)) | (with_reducible refine below_drewN ?_ _) | (with_reducible apply Below.drew) | (with_reducible refine below_alloc ?_ _) | refine Below.setCell ?_ (by first | (simp; done) | (simp; omega)) _))⟩
  by_cases g2 : 48 < (P.a.length : Int)
  · have HE : Hid (P.ok = false) := by show _ = _; simp [Rd.ok, Rd.sized]; omega
    go_enter Try.func35, Try.ntmps35
    go_wp2_with (first | (go_at_call 45; refine ((arePositive_any P.a _ _ (HS.out.1.later (by (repeat (first | (with_reducible exact Below.refl _ _) | (with_reducible assumption) | (with_reducible refine below_then ?_ (by assumption)) | (with_reducible refine Below.trans ?_ (by assumption)) | (with_reducible refine below_drewN ?_ _) | (with_reducible apply Below.drew) | (with_reducible refine below_alloc ?_ _) | refine Below.setCell ?_ (by first | (simp; done) | (simp; omega)) _))))) ).mono ?_; rintro e w' ⟨rfl, n, rfl⟩) | (go_at_call 44; refine ((areFinite_any P.d _ _ (HS.out.2.2.2.later (by (repeat (first | (with_reducible exact Below.refl _ _) | (with_reducible assumption) | (with_reducible refine below_then ?_ (by assumption)) | (with_reducible refine Below.trans ?_ (by assumption)) | (with_reducible refine below_drewN ?_ _) | (with_reducible apply Below.drew) | (with_reducible refine below_alloc ?_ _) | refine Below.setCell ?_ (by first | (simp; done) | (simp; omega)) _))))) ).mono ?_; rintro e w' ⟨rfl, n, rfl⟩))
    all_goals
      go_ret
      exact ⟨by (first | (rw [HE.out]; rfl) | rw [HE.out]), by (repeat (first | (with_reducible exact Below.refl _ _) | (with_reducible assumption) | (with_reducible refine below_then ?_ (by assumption)) | (with_reducible refine Below.trans ?_ (by assumption)) | (with_reducible refine below_drewN ?_ _) | (with_reducible apply Below.drew) | (with_reducible refine below_alloc ?_ _) | refine Below.setCell ?_ (by first | (simp; done) | (simp; omega)) _))⟩
  by_cases e2 : (P.b.length : Int) = P.a.length
  rotate_left
  · have HE : Hid (P.ok = false) := by show _ = _; simp [Rd.ok, Rd.sized]; omega
    go_enter Try.func35, Try.ntmps35
    go_wp2_with (first | (go_at_call 45; refine ((arePositive_any P.a _ _ (HS.out.1.later (by (repeat (first | (with_reducible exact Below.refl _ _) | (with_reducible assumption) | (with_reducible refine below_then ?_ (by assumption)) | (with_reducible refine Below.trans ?_ (by assumption)) | (with_reducible refine below_drewN ?_ _) | (with_reducible apply Below.drew) | (with_reducible refine below_alloc ?_ _) | refine Below.setCell ?_ (by first | (simp; done) | (simp; omega)) _))))) ).mono ?_; rintro e w' ⟨rfl, n, rfl⟩) | (go_at_call 44; refine ((areFinite_any P.d _ _ (HS.out.2.2.2.later (by (repeat (first | (with_reducible exact Below.refl _ _) | (with_reducible assumption) | (with_reducible refine below_then ?_ (by assumption)) | (with_reducible refine Below.trans ?_ (by assumption)) | (with_reducible refine below_drewN ?_ _) | (with_reducible apply Below.drew) | (with_reducible refine below_alloc ?_ _) | refine Below.setCell ?_ (by first | (simp; done) | (simp; omega)) _))))) ).mono ?_; rintro e w' ⟨rfl, n, rfl⟩))
    all_goals
      go_ret
      exact ⟨by (first | (rw [HE.out]; rfl) | rw [HE.out]), by (repeat (first | (with_reducible exact Below.refl _ _) | (with_reducible assumption) | (with_reducible refine below_then ?_ (by assumption)) | (with_reducible refine Below.trans ?_ (by assumption)) | (with_reducible refine below_drewN ?_ _) | (with_reducible apply Below.drew) | (with_reducible refine below_alloc ?_ _) | refine Below.setCell ?_ (by first | (simp; done) | (simp; omega)) _))⟩
  by_cases e3 : (P.c.length : Int) = P.a.length
  rotate_left
  · have HE : Hid (P.ok = false) := by show _ = _; simp [Rd.ok, Rd.sized]; omega
    go_enter Try.func35, Try.ntmps35
    go_wp2_with (first | (go_at_call 45; refine ((arePositive_any P.a _ _ (HS.out.1.later (by (repeat (first | (with_reducible exact Below.refl _ _) | (with_reducible assumption) | (with_reducible refine below_then ?_ (by assumption)) | (with_reducible refine Below.trans ?_ (by assumption)) | (with_reducible refine below_drewN ?_ _) | (with_reducible apply Below.drew) | (with_reducible refine below_alloc ?_ _) | refine Below.setCell ?_ (by first | (simp; done) | (simp; omega)) _))))) ).mono ?_; rintro e w' ⟨rfl, n, rfl⟩) | (go_at_call 44; refine ((areFinite_any P.d _ _ (HS.out.2.2.2.later (by (repeat (first | (with_reducible exact Below.refl _ _) | (with_reducible assumption) | (with_reducible refine below_then ?_ (by assumption)) | (with_reducible refine Below.trans ?_ (by assumption)) | (with_reducible refine below_drewN ?_ _) | (with_reducible apply Below.drew) | (with_reducible refine below_alloc ?_ _) | refine Below.setCell ?_ (by first | (simp; done) | (simp; omega)) _))))) ).mono ?_; rintro e w' ⟨rfl, n, rfl⟩))
    all_goals
      go_ret
      exact ⟨by (first | (rw [HE.out]; rfl) | rw [HE.out]), by (repeat (first | (with_reducible exact Below.refl _ _) | (with_reducible assumption) | (with_reducible refine below_then ?_ (by assumption)) | (with_reducible refine Below.trans ?_ (by assumption)) | (with_reducible refine below_drewN ?_ _) | (with_reducible apply Below.drew) | (with_reducible refine below_alloc ?_ _) | refine Below.setCell ?_ (by first | (simp; done) | (simp; omega)) _))⟩
  by_cases e4 : (P.d.length : Int) = P.a.length
  rotate_left
  · have HE : Hid (P.ok = false) := by show _ = _; simp [Rd.ok, Rd.sized]; omega
    go_enter Try.func35, Try.ntmps35
    go_wp2_with (first | (go_at_call 45; refine ((arePositive_any P.a _ _ (HS.out.1.later (by (repeat (first | (with_reducible exact Below.refl _ _) | (with_reducible assumption) | (with_reducible refine below_then ?_ (by assumption)) | (with_reducible refine Below.trans ?_ (by assumption)) | (with_reducible refine below_drewN ?_ _) | (with_reducible apply Below.drew) | (with_reducible refine below_alloc ?_ _) | refine Below.setCell ?_ (by first | (simp; done) | (simp; omega)) _))))) ).mono ?_; rintro e w' ⟨rfl, n, rfl⟩) | (go_at_call 44; refine ((areFinite_any P.d _ _ (HS.out.2.2.2.later (by (repeat (first | (with_reducible exact Below.refl _ _) | (with_reducible assumption) | (with_reducible refine below_then ?_ (by assumption)) | (with_reducible refine Below.trans ?_ (by assumption)) | (with_reducible refine below_drewN ?_ _) | (with_reducible apply Below.drew) | (with_reducible refine below_alloc ?_ _) | refine Below.setCell ?_ (by first | (simp; done) | (simp; omega)) _))))) ).mono ?_; rintro e w' ⟨rfl, n, rfl⟩))
    all_goals
      go_ret
      exact ⟨by (first | (rw [HE.out]; rfl) | rw [HE.out]), by (repeat (first | (with_reducible exact Below.refl _ _) | (with_reducible assumption) | (with_reducible refine below_then ?_ (by assumption)) | (with_reducible refine Below.trans ?_ (by assumption)) | (with_reducible refine below_drewN ?_ _) | (with_reducible apply Below.drew) | (with_reducible refine below_alloc ?_ _) | refine Below.setCell ?_ (by first | (simp; done) | (simp; omega)) _))⟩
  have HA : Hid (∀ w', Below w.heap.size w w' → Calls Try.prog 45 #[.slice l.p1 P.a.length l.c1] w' (RB w' (posL P.a))) := fun w' h => arePositive_any P.a _ w' (HS.out.1.later h)
  have HB : Hid (∀ w', Below w.heap.size w w' → Calls Try.prog 45 #[.slice l.p2 P.b.length l.c2] w' (RB w' (posL P.b))) := fun w' h => arePositive_any P.b _ w' (HS.out.2.1.later h)
  have HC : Hid (∀ w', Below w.heap.size w w' → Calls Try.prog 45 #[.slice l.p3 P.c.length l.c3] w' (RB w' (posL P.c))) := fun w' h => arePositive_any P.c _ w' (HS.out.2.2.1.later h)
  have HD : Hid (∀ w', Below w.heap.size w w' → Calls Try.prog 44 #[.slice l.p4 P.d.length l.c4] w' (RB w' (finL P.d))) := fun w' h => areFinite_any P.d _ w' (HS.out.2.2.2.later h)
  have HE : Hid (P.ok = (posL P.a && (posL P.b && (posL P.c && finL P.d)))) := by
    show _ = _
    have q1 : decide (1 ≤ P.a.length) = true := by simp; omega
    have q2 : decide (P.a.length ≤ 48) = true := by simp; omega
    have q3 : decide (P.b.length = P.a.length) = true := by simp; omega
    have q4 : decide (P.c.length = P.a.length) = true := by simp; omega
    have q5 : decide (P.d.length = P.a.length) = true := by simp; omega
    simp only [Rd.ok, Rd.sized, q1, q2, q3, q4, q5, Bool.true_and]
  rcases f1 : posL P.a
  · rw [f1] at HA
    go_enter Try.func35, Try.ntmps35
    go_wp2_with (first | (go_at_call_of 45 (Value.slice l.p1 P.a.length l.c1); refine ((HA.out _ (by (repeat (first | (with_reducible exact Below.refl _ _) | (with_reducible assumption) | (with_reducible refine below_then ?_ (by assumption)) | (with_reducible refine Below.trans ?_ (by assumption)) | (with_reducible refine below_drewN ?_ _) | (with_reducible apply Below.drew) | (with_reducible refine below_alloc ?_ _) | refine Below.setCell ?_ (by first | (simp; done) | (simp; omega)) _)))) ).mono ?_; rintro e w' ⟨rfl, n, rfl⟩) | (go_at_call_of 45 (Value.slice l.p2 P.b.length l.c2); refine ((HB.out _ (by (repeat (first | (with_reducible exact Below.refl _ _) | (with_reducible assumption) | (with_reducible refine below_then ?_ (by assumption)) | (with_reducible refine Below.trans ?_ (by assumption)) | (with_reducible refine below_drewN ?_ _) | (with_reducible apply Below.drew) | (with_reducible refine below_alloc ?_ _) | refine Below.setCell ?_ (by first | (simp; done) | (simp; omega)) _)))) ).mono ?_; rintro e w' ⟨rfl, n, rfl⟩) | (go_at_call_of 45 (Value.slice l.p3 P.c.length l.c3); refine ((HC.out _ (by (repeat (first | (with_reducible exact Below.refl _ _) | (with_reducible assumption) | (with_reducible refine below_then ?_ (by assumption)) | (with_reducible refine Below.trans ?_ (by assumption)) | (with_reducible refine below_drewN ?_ _) | (with_reducible apply Below.drew) | (with_reducible refine below_alloc ?_ _) | refine Below.setCell ?_ (by first | (simp; done) | (simp; omega)) _)))) ).mono ?_; rintro e w' ⟨rfl, n, rfl⟩) | (go_at_call 44; refine ((HD.out _ (by (repeat (first | (with_reducible exact Below.refl _ _) | (with_reducible assumption) | (with_reducible refine below_then ?_ (by assumption)) | (with_reducible refine Below.trans ?_ (by assumption)) | (with_reducible refine below_drewN ?_ _) | (with_reducible apply Below.drew) | (with_reducible refine below_alloc ?_ _) | refine Below.setCell ?_ (by first | (simp; done) | (simp; omega)) _)))) ).mono ?_; rintro e w' ⟨rfl, n, rfl⟩))
    all_goals
      go_ret
      exact ⟨by rw [HE.out]; simp [*], by (repeat (first | (with_reducible exact Below.refl _ _) | (with_reducible assumption) | (with_reducible refine below_then ?_ (by assumption)) | (with_reducible refine Below.trans ?_ (by assumption)) | (with_reducible refine below_drewN ?_ _) | (with_reducible apply Below.drew) | (with_reducible refine below_alloc ?_ _) | refine Below.setCell ?_ (by first | (simp; done) | (simp; omega)) _))⟩
  rcases f2 : posL P.b
  · rw [f1] at HA
    rw [f2] at HB
    go_enter Try.func35, Try.ntmps35
    go_wp2_with (first | (go_at_call_of 45 (Value.slice l.p1 P.a.length l.c1); refine ((HA.out _ (by (repeat (first | (with_reducible exact Below.refl _ _) | (with_reducible assumption) | (with_reducible refine below_then ?_ (by assumption)) | (with_reducible refine Below.trans ?_ (by assumption)) | (with_reducible refine below_drewN ?_ _) | (with_reducible apply Below.drew) | (with_reducible refine below_alloc ?_ _) | refine Below.setCell ?_ (by first | (simp; done) | (simp; omega)) _)))) ).mono ?_; rintro e w' ⟨rfl, n, rfl⟩) | (go_at_call_of 45 (Value.slice l.p2 P.b.length l.c2); refine ((HB.out _ (by (repeat (first | (with_reducible exact Below.refl _ _) | (with_reducible assumption) | (with_reducible refine below_then ?_ (by assumption)) | (with_reducible refine Below.trans ?_ (by assumption)) | (with_reducible refine below_drewN ?_ _) | (with_reducible apply Below.drew) | (with_reducible refine below_alloc ?_ _) | refine Below.setCell ?_ (by first | (simp; done) | (simp; omega)) _)))) ).mono ?_; rintro e w' ⟨rfl, n, rfl⟩) | (go_at_call_of 45 (Value.slice l.p3 P.c.length l.c3); refine ((HC.out _ (by (repeat (first | (with_reducible exact Below.refl _ _) | (with_reducible assumption) | (with_reducible refine below_then ?_ (by assumption)) | (with_reducible refine Below.trans ?_ (by assumption)) | (with_reducible refine below_drewN ?_ _) | (with_reducible apply Below.drew) | (with_reducible refine below_alloc ?_ _) | refine Below.setCell ?_ (by first | (simp; done) | (simp; omega)) _)))) ).mono ?_; rintro e w' ⟨rfl, n, rfl⟩) | (go_at_call 44; refine ((HD.out _ (by (repeat (first | (with_reducible exact Below.refl _ _) | (with_reducible assumption) | (with_reducible refine below_then ?_ (by assumption)) | (with_reducible refine Below.trans ?_ (by assumption)) | (with_reducible refine below_drewN ?_ _) | (with_reducible apply Below.drew) | (with_reducible refine below_alloc ?_ _) | refine Below.setCell ?_ (by first | (simp; done) | (simp; omega)) _)))) ).mono ?_; rintro e w' ⟨rfl, n, rfl⟩))
    all_goals
      go_ret
      exact ⟨by rw [HE.out]; simp [*], by (repeat (first | (with_reducible exact Below.refl _ _) | (with_reducible assumption) | (with_reducible refine below_then ?_ (by assumption)) | (with_reducible refine Below.trans ?_ (by assumption)) | (with_reducible refine below_drewN ?_ _) | (with_reducible apply Below.drew) | (with_reducible refine below_alloc ?_ _) | refine Below.setCell ?_ (by first | (simp; done) | (simp; omega)) _))⟩
  rcases f3 : posL P.c
  all_goals
    rw [f1] at HA
    rw [f2] at HB
    rw [f3] at HC
    go_enter Try.func35, Try.ntmps35
    go_wp2_with (first | (go_at_call_of 45 (Value.slice l.p1 P.a.length l.c1); refine ((HA.out _ (by (repeat (first | (with_reducible exact Below.refl _ _) | (with_reducible assumption) | (with_reducible refine below_then ?_ (by assumption)) | (with_reducible refine Below.trans ?_ (by assumption)) | (with_reducible refine below_drewN ?_ _) | (with_reducible apply Below.drew) | (with_reducible refine below_alloc ?_ _) | refine Below.setCell ?_ (by first | (simp; done) | (simp; omega)) _)))) ).mono ?_; rintro e w' ⟨rfl, n, rfl⟩) | (go_at_call_of 45 (Value.slice l.p2 P.b.length l.c2); refine ((HB.out _ (by (repeat (first | (with_reducible exact Below.refl _ _) | (with_reducible assumption) | (with_reducible refine below_then ?_ (by assumption)) | (with_reducible refine Below.trans ?_ (by assumption)) | (with_reducible refine below_drewN ?_ _) | (with_reducible apply Below.drew) | (with_reducible refine below_alloc ?_ _) | refine Below.setCell ?_ (by first | (simp; done) | (simp; omega)) _)))) ).mono ?_; rintro e w' ⟨rfl, n, rfl⟩) | (go_at_call_of 45 (Value.slice l.p3 P.c.length l.c3); refine ((HC.out _ (by (repeat (first | (with_reducible exact Below.refl _ _) | (with_reducible assumption) | (with_reducible refine below_then ?_ (by assumption)) | (with_reducible refine Below.trans ?_ (by assumption)) | (with_reducible refine below_drewN ?_ _) | (with_reducible apply Below.drew) | (with_reducible refine below_alloc ?_ _) | refine Below.setCell ?_ (by first | (simp; done) | (simp; omega)) _)))) ).mono ?_; rintro e w' ⟨rfl, n, rfl⟩) | (go_at_call 44; refine ((HD.out _ (by (repeat (first | (with_reducible exact Below.refl _ _) | (with_reducible assumption) | (with_reducible refine below_then ?_ (by assumption)) | (with_reducible refine Below.trans ?_ (by assumption)) | (with_reducible refine below_drewN ?_ _) | (with_reducible apply Below.drew) | (with_reducible refine below_alloc ?_ _) | refine Below.setCell ?_ (by first | (simp; done) | (simp; omega)) _)))) ).mono ?_; rintro e w' ⟨rfl, n, rfl⟩))
    all_goals
      go_ret
      exact ⟨by rw [HE.out]; simp [*], by (repeat (first | (with_reducible exact Below.refl _ _) | (with_reducible assumption) | (with_reducible refine below_then ?_ (by assumption)) | (with_reducible refine Below.trans ?_ (by assumption)) | (with_reducible refine below_drewN ?_ _) | (with_reducible apply Below.drew) | (with_reducible refine below_alloc ?_ _) | refine Below.setCell ?_ (by first | (simp; done) | (simp; omega)) _))⟩
end Go.Proofs.Ytpnkapdemgieaaa
set_option linter.unusedSimpArgs false
set_option linter.unusedVariables false
set_option linter.unusedSectionVars false
namespace Go.Proofs.Ytpnkapdemgieaaa
open Go Go.RowKit
open Go.ChangeShapes Go.WideShapes Go.ChangeAt Go.RowKit Go.Joins
end Go.Proofs.Ytpnkapdemgieaaa
set_option linter.unusedSimpArgs false
set_option linter.unusedVariables false
set_option linter.unusedSectionVars false
namespace Go.Proofs.Ytpnkapdemgieaaa
open Go Go.RowKit
end Go.Proofs.Ytpnkapdemgieaaa
set_option linter.unusedSimpArgs false
set_option linter.unusedVariables false
set_option linter.unusedSectionVars false
namespace Go.Proofs.Ytpnkapdemgieaaa
open Go Go.RowKit
open Go.ChangeShapes Go.WideShapes Go.ChangeAt Go.RowKit Go.Joins
theorem any_cn (ys : List Nat) {L : List Nat} (h : ys.map (cn .f32) = L) : (ys.any fun x => !fin .f32 (cn .f32 x)) = L.any fun x => !fin .f32 x := by
  rw [← h, List.any_map]; rfl
/-- A slice of numbers that is not empty, seen. -/
theorem FS.ptr {w : World} {v : Value} {xs : List Nat} (h : FS w v xs) (hn : 1 ≤ xs.length) : ∃ b o c, v = .slice (some ⟨b, o, none⟩) xs.length c ∧ (c ≤ 9223372036854775807 ∧ xs.length ≤ c) ∧ Hid (∀ i, i < xs.length → w.cell? ⟨b, o + i, none⟩ = some (.float .f32 (xs.getD i 0))) := by
  obtain ⟨q, c, rfl, h1, h2, h3⟩ := FS_view h
  obtain ⟨b, o, rfl, _⟩ := h3 0 (by omega)
  refine ⟨b, o, c, rfl, ⟨h1, h2⟩, fun i hi => ?_⟩
  obtain ⟨b', o', e, hc⟩ := h3 i hi
  cases e; exact hc
/-- A rod whose lists are not empty, seen. -/
theorem Rd.open {P : Rd} {w : World} {l : RL} (h : P.fs w l) (hk : P.ok = true) : ∃ b1 o1 c1 b2 o2 c2 b3 o3 c3 b4 o4 c4, l = ⟨some ⟨b1, o1, none⟩, c1, some ⟨b2, o2, none⟩, c2, some ⟨b3, o3, none⟩, c3, some ⟨b4, o4, none⟩, c4⟩ ∧ Hid (∀ i, i < P.a.length → w.cell? ⟨b1, o1 + i, none⟩ = some (.float .f32 (P.a.getD i 0))) ∧ Hid (∀ i, i < P.a.length → w.cell? ⟨b2, o2 + i, none⟩ = some (.float .f32 (P.b.getD i 0))) ∧ Hid (∀ i, i < P.a.length → w.cell? ⟨b3, o3 + i, none⟩ = some (.float .f32 (P.c.getD i 0))) ∧ Hid (∀ i, i < P.a.length → w.cell? ⟨b4, o4 + i, none⟩ = some (.float .f32 (P.d.getD i 0))) := by
  obtain ⟨⟨h1, h2⟩, e2, e3, e4⟩ := Rd.ok_len hk
  obtain ⟨p1, c1, p2, c2, p3, c3, p4, c4⟩ := l
  obtain ⟨f1, f2, f3, f4⟩ := h
  obtain ⟨b1, o1, d1, g1, _, k1⟩ := f1.ptr h1
  obtain ⟨b2, o2, d2, g2, _, k2⟩ := f2.ptr (by omega)
  obtain ⟨b3, o3, d3, g3, _, k3⟩ := f3.ptr (by omega)
  obtain ⟨b4, o4, d4, g4, _, k4⟩ := f4.ptr (by omega)
  cases g1; cases g2; cases g3; cases g4
  exact ⟨b1, o1, _, b2, o2, _, b3, o3, _, b4, o4, _, rfl, k1, fun i hi => k2.out i (by omega), fun i hi => k3.out i (by omega), fun i hi => k4.out i (by omega)⟩
theorem rd_later {P : Rd} {l : RL} {w w' : World} {b o B : Nat} (h : RdAt P l w b o) (hb : Below B w w') (hB : b < B) : RdAt P l w' b o :=
  ⟨(hb.cell hB).trans h.1, (hb.cell hB).trans h.2.1, (hb.cell hB).trans h.2.2.1, (hb.cell hB).trans h.2.2.2⟩
def befS (a : List Nat) : Nat → Nat
  | 0 => cn .f32 0
  | k + 1 => fop .add .f32 (befS a k) (cn .f32 (a.getD k 0))
def midB (s x : Nat) : Nat := fop .add .f32 s (fop .quo .f32 x (cn .f32 1073741824))
def midL (a : List Nat) (k : Nat) : List Nat := (List.range k).map fun j => midB (befS a j) (cn .f32 (a.getD j 0))
theorem midL_step (a : List Nat) (k : Nat) : midL a (k + 1) = midL a k ++ [midB (befS a k) (cn .f32 (a.getD k 0))] := by
  unfold midL; rw [List.range_succ, List.map_append]; rfl
def midOk (a : List Nat) : Bool := !(midL a a.length).any fun x => !fin .f32 x
set_option maxHeartbeats 4000000 in
theorem implMiddles_any (P : Rd) (l : RL) (w : World) (hs : P.fs w l) (h0 : P.ok = true) : Calls Try.prog 48 #[.agg #[.slice l.p1 P.a.length l.c1, .slice l.p2 P.b.length l.c2, .slice l.p3 P.c.length l.c3, .slice l.p4 P.d.length l.c4]] w (BC w (midL P.a P.a.length) (midOk P.a)) := by
  obtain ⟨hn1, hn2⟩ := (Rd.ok_len h0).1
  have HS := Lib.hid hs
  obtain ⟨b1, o1, c1, b2, o2, c2, b3, o3, c3, b4, o4, c4, rfl, HA, HB, HC, HD⟩ := Rd.open hs h0
  have HM : Hid (midOk P.a = !(midL P.a P.a.length).any fun x => !fin .f32 x) := rfl
  clear hs h0
  go_enter Try.func48, Try.ntmps48
  go_wp2_with (first | (with_reducible refine at_list ?_; refine wpList_fop rfl rfl rfl rfl rfl ?_; intro r n hr0; have hr := hr0 _ _ (by first | with_reducible assumption | exact rfl) (by first | with_reducible assumption | exact rfl); clear hr0) | (with_reducible refine at_list ?_; refine wpList_neg rfl rfl rfl ?_; intro r hr0; have hr := hr0 _ (by first | with_reducible assumption | exact rfl); clear hr0) | (with_reducible refine at_list ?_; refine wpList_fop_g rfl rfl rfl rfl rfl ?_; intro r n hr0; have hr := hr0 _ _ (by first | with_reducible assumption | exact rfl) (by first | with_reducible assumption | exact rfl); clear hr0) | (go_at_call 44; refine (areFinite_any _ _ _ (by assumption)).mono ?_; rintro e w' ⟨rfl, n, rfl⟩))
  refine wp_named ?_
  intro ws hws
  have hBs : Below w.heap.size w ws := by rw [hws]; (repeat (first | (with_reducible exact Below.refl _ _) | (with_reducible assumption) | (with_reducible refine below_then ?_ (by assumption)) | (with_reducible refine Below.trans ?_ (by assumption)) | (with_reducible refine below_drewN ?_ _) | (with_reducible apply Below.drew) | (with_reducible refine below_alloc ?_ _) | refine Below.setCell ?_ (by first | (simp; done) | (simp; omega)) _))
  have hzs : w.heap.size + 1 ≤ ws.heap.size := by rw [hws]; first | omega | (simp; done) | (simp; omega)
  have HO00 : Hid (OF (w.heap.size + 1) ws (.slice (some ⟨w.heap.size + 1, 0, none⟩) 0 0) []) := by rw [hws]; first | exact OF.empty _ _ (by simp) (by simp) rfl | exact (OF.empty _ _ (by simp) (by simp) rfl).drewN _
  clear hws
  go_loopw [4, 5, 12] (fun u f t wr => ∃ (k c r0 : Nat) (q : Option Addr) (ys : List Nat), k ≤ P.a.length ∧ t = .int .i64 (k : Int) ∧ u = .slice q ys.length c ∧ f = .float .f32 r0 ∧ Hid (cn .f32 r0 = befS P.a k) ∧ ys.length = k ∧ Hid (OF (w.heap.size + 1) wr (.slice q ys.length c) ys) ∧ Hid (ys.map (cn .f32) = midL P.a k) ∧ Below w.heap.size w wr ∧ w.heap.size + 1 ≤ wr.heap.size) (fun _ _ t _ => P.a.length - (intOf t).toNat)
  case atStart => exact ⟨0, 0, 0, some ⟨_, 0, none⟩, [], by omega, rfl, rfl, rfl, rfl, rfl, HO00.out, rfl, hBs, hzs⟩
  case round =>
    clear hBs hzs HO00
    obtain ⟨k, c, r0, q, ys, hk, rfl, rfl, rfl, HR, hyl, HO, HL, hB, hzr⟩ := hrel
    have HYL := Lib.hid hyl
    by_cases hlt : k < P.a.length
    · have hlti : (k : Int) < (P.a.length : Int) := by omega
      have ca := cell_later hB (HA.out k hlt)
      have hT : Trk wr [w.heap.size, b1] := ((Trk.nil wr).more (World.block_lt_of_cell? _ _ ca)).more (by omega)
      have HST := Lib.hid (midL_step P.a k)
      have HBF : Hid (befS P.a (k + 1) = fop .add .f32 (befS P.a k) (cn .f32 (P.a.getD k 0))) := rfl
      generalize P.a.getD k 0 = x at ca HST HBF
      have hyn : ys.length ≤ 48 := by omega
      have hr2 := HR.out
      clear HA HB HC HD hyl
      go_wp2_with (first | (with_reducible refine at_list ?_; refine wpList_fop rfl rfl rfl rfl rfl ?_; intro r n hr0; have hr := hr0 _ _ (by first | with_reducible assumption | exact rfl) (by first | with_reducible assumption | exact rfl); clear hr0) | (with_reducible refine at_list ?_; refine wpList_neg rfl rfl rfl ?_; intro r hr0; have hr := hr0 _ (by first | with_reducible assumption | exact rfl); clear hr0) | (with_reducible refine at_list ?_; refine wpList_fop_g rfl rfl rfl rfl rfl ?_; intro r n hr0; have hr := hr0 _ _ (by first | with_reducible assumption | exact rfl) (by first | with_reducible assumption | exact rfl); clear hr0) | (at_builtin; refine stop_here ?_) | (go_at_call 44; refine (areFinite_any _ _ _ (by assumption)).mono ?_; rintro e w' ⟨rfl, n, rfl⟩))
      unfold Stop
      apply wpList_app (B := w.heap.size + 1) (xs := ys) (v := .slice q ys.length c)
      case hg => rfl
      case ho => rfl
      case hs => rfl
      case hx => rfl
      case hO => exact OF.alloc (OF.later HO.out (by (repeat (first | (with_reducible exact Below.refl _ _) | (with_reducible assumption) | (with_reducible refine below_then ?_ (by assumption)) | (with_reducible refine Below.trans ?_ (by assumption)) | (with_reducible refine below_drewN ?_ _) | (with_reducible apply Below.drew) | (with_reducible refine below_alloc ?_ _) | refine Below.setCell ?_ (by first | (simp; done) | (simp; omega)) _)))) _
      case hc => go_simp <;> exact rfl
      case hn => omega
      case hB => simp; omega
      intro q2 c2' w2 hO2 hB2
      have hw2 : w.heap.size + 1 ≤ w2.heap.size := by have := hB2.size; simp at this; omega
      have hB3 := Below.trans (B := w.heap.size) (a := w) (by (repeat (first | (with_reducible exact Below.refl _ _) | (with_reducible assumption) | (with_reducible refine below_then ?_ (by assumption)) | (with_reducible refine Below.trans ?_ (by assumption)) | (with_reducible refine below_drewN ?_ _) | (with_reducible apply Below.drew) | (with_reducible refine below_alloc ?_ _) | refine Below.setCell ?_ (by first | (simp; done) | (simp; omega)) _))) (hB2.mono (by omega))
      have hL2 : Hid ((ys ++ [r]).map (cn .f32) = midL P.a (k + 1)) := by
        show _ = _
        rw [HST.out, List.map_append, HL.out]
        have hrr : cn .f32 r = midB (befS P.a k) (cn .f32 x) := by unfold midB; assumption
        simp [hrr]
      have HB3 := Lib.hid hB3
      have HO2 := Lib.hid hO2
      clear hB3 hB2 hO2
      go_wp2_with (first | (with_reducible refine at_list ?_; refine wpList_fop rfl rfl rfl rfl rfl ?_; intro r n hr0; have hr := hr0 _ _ (by first | with_reducible assumption | exact rfl) (by first | with_reducible assumption | exact rfl); clear hr0) | (with_reducible refine at_list ?_; refine wpList_neg rfl rfl rfl ?_; intro r hr0; have hr := hr0 _ (by first | with_reducible assumption | exact rfl); clear hr0) | (with_reducible refine at_list ?_; refine wpList_fop_g rfl rfl rfl rfl rfl ?_; intro r n hr0; have hr := hr0 _ _ (by first | with_reducible assumption | exact rfl) (by first | with_reducible assumption | exact rfl); clear hr0) | (go_at_call 44; refine (areFinite_any _ _ _ (by assumption)).mono ?_; rintro e w' ⟨rfl, n, rfl⟩))
      go_roundw
      case rel => exact ⟨k + 1, c2', _, q2, ys ++ [_], by omega, by go_num, by simp, rfl, by show _ = _; rw [HBF.out]; assumption, by simp [HYL.out], by show OF _ _ _ _; have := OF.drewN HO2.out n; simpa using this, hL2.out, below_drewN HB3.out _, by simpa using hw2⟩
      case measure => simp [intOf]; omega
      all_goals first | kernel_rfl | rfl
    · have hlti : ¬ (k : Int) < (P.a.length : Int) := by omega
      have hke : P.a.length = k := by omega
      have HYS : Hid (ys.map (cn .f32) = midL P.a P.a.length) := by show _ = _; rw [hke]; exact HL.out
      have HAF := Lib.hid (fun w h => areFinite_any ys (.slice q ys.length c) w h)
      rw [any_cn ys HYS.out, ← HM.out] at HAF
      clear HL hke hyl HM
      go_wp2_with (first | (with_reducible refine at_list ?_; refine wpList_fop rfl rfl rfl rfl rfl ?_; intro r n hr0; have hr := hr0 _ _ (by first | with_reducible assumption | exact rfl) (by first | with_reducible assumption | exact rfl); clear hr0) | (with_reducible refine at_list ?_; refine wpList_neg rfl rfl rfl ?_; intro r hr0; have hr := hr0 _ (by first | with_reducible assumption | exact rfl); clear hr0) | (with_reducible refine at_list ?_; refine wpList_fop_g rfl rfl rfl rfl rfl ?_; intro r n hr0; have hr := hr0 _ _ (by first | with_reducible assumption | exact rfl) (by first | with_reducible assumption | exact rfl); clear hr0) | (go_at_call 44; refine ((HAF.out _ (FS.later (OF.fs HO.out) (by (repeat (first | (with_reducible exact Below.refl _ _) | (with_reducible assumption) | (with_reducible refine below_then ?_ (by assumption)) | (with_reducible refine Below.trans ?_ (by assumption)) | (with_reducible refine below_drewN ?_ _) | (with_reducible apply Below.drew) | (with_reducible refine below_alloc ?_ _) | refine Below.setCell ?_ (by first | (simp; done) | (simp; omega)) _))))) ).mono ?_; rintro e w' ⟨rfl, n, rfl⟩))
      go_ret2
      exact ⟨_, ys, rfl, by (repeat (first | (with_reducible exact Below.refl _ _) | (with_reducible assumption) | (with_reducible refine below_then ?_ (by assumption)) | (with_reducible refine Below.trans ?_ (by assumption)) | (with_reducible refine below_drewN ?_ _) | (with_reducible apply Below.drew) | (with_reducible refine below_alloc ?_ _) | refine Below.setCell ?_ (by first | (simp; done) | (simp; omega)) _)), OF.base (OF.later HO.out (by (repeat (first | (with_reducible exact Below.refl _ _) | (with_reducible assumption) | (with_reducible refine below_then ?_ (by assumption)) | (with_reducible refine Below.trans ?_ (by assumption)) | (with_reducible refine below_drewN ?_ _) | (with_reducible apply Below.drew) | (with_reducible refine below_alloc ?_ _) | refine Below.setCell ?_ (by first | (simp; done) | (simp; omega)) _)))) (by omega), HYS.out⟩
end Go.Proofs.Ytpnkapdemgieaaa
set_option linter.unusedSimpArgs false
set_option linter.unusedVariables false
set_option linter.unusedSectionVars false
namespace Go.Proofs.Ytpnkapdemgieaaa
open Go Go.RowKit
open Go.ChangeShapes Go.WideShapes Go.ChangeAt Go.RowKit Go.Joins
theorem OF.one {B n r : Nat} (w : World) (t : TypeId) (hn : n = w.heap.size) (hB : B ≤ w.heap.size) (ht : t = 28) : OF B (w.alloc (.cells #[.float .f32 r] t)) (.slice (some ⟨n, 0, none⟩) 1 1) [r] := by
  subst ht
  subst hn
  exact World.ownsRow_lit w #[.float .f32 r] 1 hB (by decide) (by simp)
theorem wpList_appL {B : Nat} {xs zs : List Nat} {v : Value} {b o0 c0 : Nat} {w : World} {ops : Array Oper} {rest : List Oper} {o : Oper} {a : Act} {Q : Exit → Act → World → Prop} (hg : o.guard = .none) {s x : Operand}
    (ho : o.op = .call { callee := .builtin .append, args := #[s, x], argTypes := #[24, 24] }) (hs : a.eval s = v) (hx : a.eval x = .slice (some ⟨b, o0, .none⟩) zs.length c0) (hO : OF B w v xs) (hc : ∀ i, i < zs.length → w.cell? ⟨b, o0 + i, .none⟩ = some (.float .f32 (zs.getD i 0))) (hn : xs.length + zs.length ≤ 1048576) (hB : B ≤ w.heap.size)
    (h : ∀ q c w', OF B w' (.slice q (xs.length + zs.length) c) (xs ++ zs) → Below B w w' → wpList Try.prog ops Q rest (a.put o.dst (.slice q (xs.length + zs.length) c)) w') : wpList Try.prog ops Q (o :: rest) a w := by
  obtain ⟨i0, hi, hz0, hz1, hz2⟩ := info_parts Try.infoF32
  refine wpList_append_own w hg s x 24 ho B 28 i0 (.float .f32 0) 1 4 Try.underlying24 hi hz0 hz1 hz2 rfl (by decide) v xs.length (xs.map (Value.float .f32)) hs hO ⟨b, o0, .none⟩ zs.length c0 (zs.map (Value.float .f32)) hx (by simp) ?_ ?_ (by unfold maxLen; omega) (by omega) hB ?_
  · intro j u hj
    rw [List.getElem?_map] at hj
    have hl : j < zs.length := by
      rcases Nat.lt_or_ge j zs.length with h | h
      · exact h
      · rw [List.getElem?_eq_none h] at hj; cases hj
    rw [List.getElem?_eq_getElem hl] at hj
    simp only [Option.map_some, Option.some.injEq] at hj
    subst hj
    have := hc j hl
    rw [List.getD_eq_getElem?_getD, List.getElem?_eq_getElem hl] at this
    rw [show Addr.add ⟨b, o0, none⟩ j = ⟨b, o0 + j, none⟩ by unfold Addr.add; split; (rename_i h; subst h; rfl); rfl]
    exact this
  · intro u hu
    rw [List.mem_map] at hu
    obtain ⟨x, _, rfl⟩ := hu
    rfl
  · intro v' w' hown hgrow _
    have hO' : OF B w' v' (xs ++ zs) := by
      unfold OF
      simpa using hown
    obtain ⟨q, c, rfl⟩ := hO'.shape
    have e : (xs ++ zs).length = xs.length + zs.length := by simp
    rw [e] at hO' ⊢
    exact h q c w' hO' ((Below.refl _ _).grown hgrow hB fun k hk => (OF.block hO k hk).1)
set_option maxHeartbeats 2000000 in
set_option maxRecDepth 100000 in
theorem cloneF_any (xs : List Nat) (v : Value) (w : World) (hs : FS w v xs) (hn : 1 ≤ xs.length ∧ xs.length ≤ 1048576) : Calls Try.prog 43 #[v] w (fun e w' => ∃ u, e = .returned u ∧ Below w.heap.size w w' ∧ OF w.heap.size w' u xs) := by
  obtain ⟨b0, o0, c0, rfl, ⟨hc1, hc2⟩, HV⟩ := hs.ptr hn.1
  clear hs
  have hnil : (binOp .eql 24 (.slice (some ⟨b0, o0, none⟩) xs.length c0) (.slice none 0 0)).run Try.prog w = .ok (.bool false) w := by kernel_rfl
  go_enter Try.func43, Try.ntmps43
  go_wp2_with (first | (at_builtin; refine stop_here ?_))
  unfold Stop
  apply wpList_appL (B := w.heap.size) (xs := []) (zs := xs) (v := .slice (some ⟨w.heap.size, 0, none⟩) 0 0)
  case hg => rfl
  case ho => rfl
  case hs => rfl
  case hx => rfl
  case hO => exact OF.empty _ _ rfl (Nat.le_refl _) rfl
  case hc => intro i hi; exact cell_later ((Below.refl _ w).alloc (Nat.le_refl _) _) (HV.out i hi)
  case hn => simp; omega
  case hB => simp
  intro q2 c2 w2 hO2 hB2
  have HB3 := Lib.hid (Below.trans (B := w.heap.size) (a := w) (by (repeat (first | (with_reducible exact Below.refl _ _) | (with_reducible assumption) | (with_reducible refine below_then ?_ (by assumption)) | (with_reducible refine Below.trans ?_ (by assumption)) | (with_reducible refine below_drewN ?_ _) | (with_reducible apply Below.drew) | (with_reducible refine below_alloc ?_ _) | refine Below.setCell ?_ (by first | (simp; done) | (simp; omega)) _))) (hB2.mono (by omega)))
  have HO2 := Lib.hid hO2
  clear hB2 hO2 HV
  go_wp2
  go_ret
  refine ⟨_, rfl, HB3.out, ?_⟩
  have := HO2.out
  simpa using this
end Go.Proofs.Ytpnkapdemgieaaa
set_option linter.unusedSimpArgs false
set_option linter.unusedVariables false
set_option linter.unusedSectionVars false
namespace Go.Proofs.Ytpnkapdemgieaaa
open Go Go.RowKit
open Go.ChangeShapes Go.WideShapes Go.ChangeAt Go.RowKit Go.Joins
def Rd.sum (P : Rd) (k : Int) : Int := k + P.a.length + P.b.length + P.c.length + P.d.length
theorem FX.fs {B S : Nat} {w : World} {u : Value} {xs : List Nat} (h : FX B S w u xs) : FS w u xs := OF.fs h.1
end Go.Proofs.Ytpnkapdemgieaaa
set_option linter.unusedSimpArgs false
set_option linter.unusedVariables false
set_option linter.unusedSectionVars false
namespace Go.Proofs.Ytpnkapdemgieaaa
open Go Go.RowKit
open Go.ChangeShapes Go.WideShapes Go.ChangeAt Go.RowKit Go.Joins
def nilRd : Rd := ⟨[], [], [], []⟩
def nilRL : RL := ⟨none, 0, none, 0, none, 0, none, 0⟩
theorem nilRd_rx (B S : Nat) (w : World) : RdX B S w nilRd nilRL :=
  ⟨⟨⟨OF.nil0 _ _, OF.nil0 _ _, OF.nil0 _ _, OF.nil0 _ _⟩, fun k hk => (by cases hk), fun k hk => (by cases hk), fun k hk => (by cases hk), fun k hk => (by cases hk)⟩, fun a b h => (by cases h), fun a b h => (by cases h), fun a b h => (by cases h), fun a b h => (by cases h), fun a b h => (by cases h), fun a b h => (by cases h)⟩
/-- Four own lists that lie apart. -/
def RdA (B : Nat) (w : World) (P : Rd) (l : RL) : Prop := P.own B w l ∧ Ap l.p1 l.p2 ∧ Ap l.p1 l.p3 ∧ Ap l.p1 l.p4 ∧ Ap l.p2 l.p3 ∧ Ap l.p2 l.p4 ∧ Ap l.p3 l.p4
theorem RdA.later {B : Nat} {w w' : World} {P : Rd} {l : RL} (h : RdA B w P l) (hb : Below w.heap.size w w') : RdA B w' P l := ⟨h.1.later hb, h.2⟩
theorem RdA.rx {B B' : Nat} {w : World} {P : Rd} {l : RL} (h : RdA B w P l) (hB : B' ≤ B) : RdX B' w.heap.size w P l := RdX.mk' (h.1.base hB) h.2.1 h.2.2.1 h.2.2.2.1 h.2.2.2.2.1 h.2.2.2.2.2.1 h.2.2.2.2.2.2
theorem RdX.base {B S B' S' : Nat} {w : World} {P : Rd} {l : RL} (h : RdX B S w P l) (hB : B' ≤ B) (hS : S ≤ S') : RdX B' S' w P l :=
  ⟨⟨h.1.1.base hB, fun k hk => Nat.lt_of_lt_of_le (h.1.2.1 k hk) hS, fun k hk => Nat.lt_of_lt_of_le (h.1.2.2.1 k hk) hS, fun k hk => Nat.lt_of_lt_of_le (h.1.2.2.2.1 k hk) hS, fun k hk => Nat.lt_of_lt_of_le (h.1.2.2.2.2 k hk) hS⟩, h.2⟩
/-- A value's block lies behind those of the values that it waits for. -/
def ordK (v : Value) (x : List Value) : Prop := ∀ z ∈ x, ∀ k k', z.ownBlock = some k → v.ownBlock = some k' → k < k'
def Clm.ord (B : Nat) (xs : List Nat) : Clm := ⟨1, fun _ v => ∃ q c, v = .slice q xs.length c, fun x v w => OF B w v xs ∧ ordK v x, fun _ => ⟨_, none, 0, rfl⟩,
  fun x v w w' h hb => ⟨OF.later h.1 hb, h.2⟩, fun h => nomatch h⟩
section
variable {P : Program} {ops : Array Oper} {Q : Exit → Act → World → Prop} {W : World} {l : List Oper} {cs : List Clm} {i : Nat} {ks : List (Nat × (World → Prop))} {a : Act} {o : Oper}
theorem wpC_callOrd (xs : List Nat) (n0 : Nat) (us ts : List Nat) (hts : depT ops o = ts) (hus : o.op.operands.toList = Operand.func n0 :: us.map Operand.tmp) (hf : (a.eval (.func n0)).ownBlock = none) (hw : Region.wanted o (yielded ops a.tmps) = true) {f : FuncId} {args : Array Value} (h1 : ∀ w, (execOp a.eval o).run P w = .ok (.enter f args) w)
    (hz : ∀ w, Below W.heap.size W w → depK o ks w → ∀ t ∈ us ++ ts, ∀ k, (a.eval (.tmp t)).ownBlock = some k → k < w.heap.size)
    (hc : ∀ w, Below W.heap.size W w → depK o ks w → Calls P f args w (fun e w' => ∃ u, e = .returned u ∧ Below w.heap.size w w' ∧ OF w.heap.size w' u xs))
    (h : ∀ q c, wpC P ops Q W l cs (i + 1) ((i, fun w => OF W.heap.size w (.slice q xs.length c) xs ∧ ordK (.slice q xs.length c) (a.eval (.func n0) :: (us ++ ts).map fun t => a.eval (.tmp t))) :: ks) (a.put o.dst (.slice q xs.length c))) : wpC P ops Q W (o :: l) (Clm.ord W.heap.size xs :: cs) i ks a := by
  have he : oargs ops o a = a.eval (.func n0) :: (us ++ ts).map fun t => a.eval (.tmp t) := by
    unfold oargs
    rw [hts, hus, List.map_append, List.map_cons, List.map_map]; rfl
  refine wpC_call (Clm.ord W.heap.size xs) rfl hw h1 (fun w hb hk => (hc w hb hk).mono ?_) ?_
  · rintro e w' ⟨u, rfl, hbl, hO⟩
    obtain ⟨q, c, rfl⟩ := hO.shape
    exact ⟨_, rfl, hbl, ⟨q, c, rfl⟩, hO.base hb.size, fun z hm k k' h1 h2 => by
      rw [he] at hm
      rcases List.mem_cons.1 hm with rfl | hm
      · rw [hf] at h1; cases h1
      obtain ⟨t, ht, rfl⟩ := List.mem_map.1 hm
      exact Nat.lt_of_lt_of_le (hz w hb hk t ht k h1) (OF.block hO k' h2).1⟩
  · rintro v ⟨q, c, rfl⟩
    show wpC P ops Q W l cs (i + 1) ((i, fun w => OF W.heap.size w (.slice q xs.length c) xs ∧ ordK (.slice q xs.length c) (oargs ops o a)) :: ks) _
    rw [he]; exact h q c
def Clm.bldR (R : Rd) (B : Nat) : Clm := ⟨1, fun _ v => ∃ l, v = rdV R l, fun _ v w => ∀ l, v = rdV R l → RdA B w R l, fun _ => ⟨_, nilRL, rfl⟩,
  fun _ v w w' h hb u e => (h u e).later hb, fun h => nomatch h⟩
theorem wpC_bldR {R : Rd} {m : RL} (hw : Region.wanted o (yielded ops a.tmps) = true) (h1 : ∀ w, (execOp a.eval o).run P w = .ok (.value (.agg #[.slice m.p1 R.a.length m.c1, .slice m.p2 R.b.length m.c2, .slice m.p3 R.c.length m.c3, .slice m.p4 R.d.length m.c4])) w)
    (hk : ∀ w, Below W.heap.size W w → depK o ks w → RdA W.heap.size w R m)
    (h : ∀ lb, wpC P ops Q W l cs (i + 1) ((i, fun w => ∀ u, rdV R lb = rdV R u → RdA W.heap.size w R u) :: ks) (a.put o.dst (.agg #[.slice lb.p1 R.a.length lb.c1, .slice lb.p2 R.b.length lb.c2, .slice lb.p3 R.c.length lb.c3, .slice lb.p4 R.d.length lb.c4]))) : wpC P ops Q W (o :: l) (Clm.bldR R W.heap.size :: cs) i ks a := by
  refine wpC_make (Clm.bldR R W.heap.size) rfl hw (fun w hb hd => ⟨_, _, h1 w, Below.refl _ _, ⟨m, rfl⟩, fun u e => (rdV_inj (P := R) (l := m) (m := u) e) ▸ hk w hb hd⟩) ?_
  rintro v ⟨lb, rfl⟩
  exact h lb
def Clm.chk : Clm := ⟨1, fun x v => v = .tuple #[x.getLastD undef, .bool true], fun _ _ _ => True, fun _ => ⟨_, rfl⟩, fun _ _ _ _ _ _ => trivial, fun h => nomatch h⟩
theorem wpC_chk {v0 : Value} (hx : (o.op.operands.toList.map a.eval).getLastD undef = v0) (hw : Region.wanted o (yielded ops a.tmps) = true) {f : FuncId} {args : Array Value} (h1 : ∀ w, (execOp a.eval o).run P w = .ok (.enter f args) w)
    (hc : ∀ w, Below W.heap.size W w → depK o ks w → Calls P f args w (BV w (.tuple #[v0, .bool true])))
    (h : wpC P ops Q W l cs (i + 1) ((i, fun _ => True) :: ks) (a.put o.dst (.tuple #[v0, .bool true]))) : wpC P ops Q W (o :: l) (Clm.chk :: cs) i ks a := by
  refine wpC_call Clm.chk rfl hw h1 (fun w hb hk => (hc w hb hk).mono ?_) ?_
  · rintro e w' ⟨rfl, hbl⟩
    exact ⟨_, rfl, hbl, by rw [← hx]; rfl, trivial⟩
  · intro v hv
    have hv : v = .tuple #[(o.op.operands.toList.map a.eval).getLastD undef, .bool true] := hv
    subst hv
    rw [hx]; exact h
end
theorem rdA_of {B : Nat} {w : World} {R : Rd} {q1 q2 q3 q4 : Option Addr} {d1 d2 d3 d4 : Nat} (o1 : OF B w (.slice q1 R.a.length d1) R.a) (o2 : OF B w (.slice q2 R.b.length d2) R.b) (o3 : OF B w (.slice q3 R.c.length d3) R.c) (o4 : OF B w (.slice q4 R.d.length d4) R.d) (hn : 1 ≤ R.b.length ∧ 1 ≤ R.c.length)
    (y2 : ∀ k k', (Value.slice q1 R.a.length d1).ownBlock = some k → (Value.slice q2 R.b.length d2).ownBlock = some k' → k < k') (y3 : ∀ k k', (Value.slice q2 R.b.length d2).ownBlock = some k → (Value.slice q3 R.c.length d3).ownBlock = some k' → k < k') (y4 : ∀ k k', (Value.slice q3 R.c.length d3).ownBlock = some k → (Value.slice q4 R.d.length d4).ownBlock = some k' → k < k') : RdA B w R ⟨q1, d1, q2, d2, q3, d3, q4, d4⟩ := by
  obtain ⟨g2, p2, e2, z2, _, _⟩ := o2.fs.ptr hn.1
  obtain ⟨g3, p3, e3, z3, _, _⟩ := o3.fs.ptr hn.2
  simp only [Value.slice.injEq] at z2 z3
  obtain ⟨rfl, _, rfl⟩ := z2
  obtain ⟨rfl, _, rfl⟩ := z3
  refine ⟨⟨o1, o2, o3, o4⟩, ?_, ?_, ?_, ?_, ?_, ?_⟩
  · rintro x y rfl hy; cases hy; have := y2 x.block g2 rfl rfl; show x.block ≠ g2; omega
  · rintro x y rfl hy; cases hy; have h1 := y2 x.block g2 rfl rfl; have h2 := y3 g2 g3 rfl rfl; show x.block ≠ g3; omega
  · rintro x y rfl rfl; have h1 := y2 x.block g2 rfl rfl; have h2 := y3 g2 g3 rfl rfl; have h3 := y4 g3 y.block rfl rfl; omega
  · rintro x y hx hy; cases hx; cases hy; have h2 := y3 g2 g3 rfl rfl; show g2 ≠ g3; omega
  · rintro x y hx rfl; cases hx; have h2 := y3 g2 g3 rfl rfl; have h3 := y4 g3 y.block rfl rfl; show g2 ≠ y.block; omega
  · rintro x y hx rfl; cases hx; have h3 := y4 g3 y.block rfl rfl; show g3 ≠ y.block; omega
end Go.Proofs.Ytpnkapdemgieaaa
