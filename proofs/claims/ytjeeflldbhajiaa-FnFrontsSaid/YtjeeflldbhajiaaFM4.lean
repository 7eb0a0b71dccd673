/-
  Draws: a number below a bound; a source made of bytes; bytes handed in. No condition but what each contract says.
  A statement whose order Go leaves open and in which a call, an append or a store turns memory that was there before: what holds of the world is told from one such operation to the next; one walk in the order of the text serves every order. No condition; nothing of the program is named here.
  Draws in a statement whose order Go leaves open; a source made of bytes; bytes handed in. No condition but what each contract says.
  Words as exact numbers: small dyadic ones, and what is reckoned of them without rounding; what is rounded, between bounds. No condition but what each law says; nothing of the program is named here.
  What the statements draw: a stuff of small dyadic numbers. No condition but what each contract says.
  Drawn stuffs: how warm they are, how far molten, what heat that comes to: between bounds. No condition but what each law says.
  slices.IndexFunc and ContainsFunc at a closure with one captured variable, whose calls may make memory. No condition but what each contract says.
  Bars: which are valid (the program's and the reference's), how they are copied and compared; the law on valid bars. No condition but what each contract says.
  Sums of lists of numbers (the program's and the reference's). No condition but what each contract says.
-/
import Derived.Test.YtjeeflldbhajiaaFM3
import Derived.Test.YtjeeflldbhajiaaFM2
set_option linter.unusedSimpArgs false
set_option linter.unusedVariables false
set_option linter.unusedSectionVars false
namespace Go.Proofs.Ytjeeflldbhajiaa
open Go Go.RowKit
open Go.ChangeShapes Go.WideShapes Go.ChangeAt Go.RowKit Go.Joins
theorem rem_bd {x n : Int} (hx : 0 ≤ x) (hn : 1 ≤ n) : 0 ≤ x % n ∧ x % n ≤ n - 1 := ⟨Int.emod_nonneg _ (by omega), by have := Int.emod_lt_of_pos x (show 0 < n by omega); omega⟩
theorem Turn.then {B S : Nat} {a b c : World} (h : Turn B S a b) (h' : Turn B S b c) : Turn B S a c := h.trans h'
set_option maxHeartbeats 2000000 in
theorem pick_any (b K : Nat) (n : Int) (w : World) (h : SrcAt w b K) (hK : K ≤ 900000) (hn : 1 ≤ n ∧ n ≤ 1000000000) : Calls Try.prog 114 #[.pointer (some ⟨b, 0, none⟩), .int .i64 n] w (SP w b (K + 2) 0 (n - 1)) := by
  have HN := Lib.hid (fun (K : Nat) w h (hK : K ≤ 1000000) => next_any b K w h hK)
  have HS := Lib.hid h
  clear h
  obtain ⟨hn1, hn2⟩ := hn
  by_cases h1 : n ≤ 1
  · have he : n = 1 := by omega
    subst he
    go_enter Try.func114, Try.ntmps114
    go_wp2_with (first | (with_reducible refine at_list ?_; refine wpList_fop rfl rfl rfl rfl rfl ?_; intro r n hr0; have hr := hr0 _ _ (by first | with_reducible assumption | exact rfl) (by first | with_reducible assumption | exact rfl); clear hr0) | (with_reducible refine at_list ?_; refine wpList_neg rfl rfl rfl ?_; intro r hr0; have hr := hr0 _ (by first | with_reducible assumption | exact rfl); clear hr0) | (with_reducible refine at_list ?_; refine wpList_fop_g rfl rfl rfl rfl rfl ?_; intro r n hr0; have hr := hr0 _ _ (by first | with_reducible assumption | exact rfl) (by first | with_reducible assumption | exact rfl); clear hr0) | (with_reducible refine at_list ?_; refine wpList_wide_g rfl rfl Try.underlying22 Try.underlying40 rfl ?_; intro r n hr0; have hr := hr0 _ (by first | with_reducible assumption | exact rfl); clear hr0) | (with_reducible refine at_list ?_; refine wpList_wide rfl rfl rfl Try.underlying22 Try.underlying40 ?_; intro r n hr0; have hr := hr0 _ (by first | with_reducible assumption | exact rfl); clear hr0))
    all_goals
      go_ret
      exact ⟨0, rfl, ⟨by omega, by omega⟩, Turn.refl _ _ _, rfl, HS.out.mono (by omega)⟩
  by_cases h2 : 200 < n
  · go_enter Try.func114, Try.ntmps114
    go_wp2_with (first | (with_reducible refine at_list ?_; refine wpList_fop rfl rfl rfl rfl rfl ?_; intro r n hr0; have hr := hr0 _ _ (by first | with_reducible assumption | exact rfl) (by first | with_reducible assumption | exact rfl); clear hr0) | (with_reducible refine at_list ?_; refine wpList_neg rfl rfl rfl ?_; intro r hr0; have hr := hr0 _ (by first | with_reducible assumption | exact rfl); clear hr0) | (with_reducible refine at_list ?_; refine wpList_fop_g rfl rfl rfl rfl rfl ?_; intro r n hr0; have hr := hr0 _ _ (by first | with_reducible assumption | exact rfl) (by first | with_reducible assumption | exact rfl); clear hr0) | (with_reducible refine at_list ?_; refine wpList_wide_g rfl rfl Try.underlying22 Try.underlying40 rfl ?_; intro r n hr0; have hr := hr0 _ (by first | with_reducible assumption | exact rfl); clear hr0) | (with_reducible refine at_list ?_; refine wpList_wide rfl rfl rfl Try.underlying22 Try.underlying40 ?_; intro r n hr0; have hr := hr0 _ (by first | with_reducible assumption | exact rfl); clear hr0) | (go_at_call 123; first | (refine (HN.out _ _ HSa.out (by omega)).mono ?_; rintro e w2 ⟨r2, rfl, hr2, hg2, hz2, hs2⟩; have HSb := Lib.hid hs2; have HGb := Lib.hid hg2; have HZb := Lib.hid hz2; clear hs2 hg2 hz2) | (refine (HN.out _ _ HS.out (by omega)).mono ?_; rintro e w' ⟨r, rfl, hr, hg, hz, hs⟩; have HSa := Lib.hid hs; have HGa := Lib.hid hg; have HZa := Lib.hid hz; clear hs hg hz)))
    go_ret
    obtain ⟨hb1, hb2⟩ := rem_bd (x := r * 256 + r2) (n := n) (by omega) hn1
    exact ⟨_, rfl, ⟨by go_num, by go_num⟩, HGa.out.then HGb.out, HZb.out.trans HZa.out, HSb.out⟩
  · go_enter Try.func114, Try.ntmps114
    go_wp2_with (first | (with_reducible refine at_list ?_; refine wpList_fop rfl rfl rfl rfl rfl ?_; intro r n hr0; have hr := hr0 _ _ (by first | with_reducible assumption | exact rfl) (by first | with_reducible assumption | exact rfl); clear hr0) | (with_reducible refine at_list ?_; refine wpList_neg rfl rfl rfl ?_; intro r hr0; have hr := hr0 _ (by first | with_reducible assumption | exact rfl); clear hr0) | (with_reducible refine at_list ?_; refine wpList_fop_g rfl rfl rfl rfl rfl ?_; intro r n hr0; have hr := hr0 _ _ (by first | with_reducible assumption | exact rfl) (by first | with_reducible assumption | exact rfl); clear hr0) | (with_reducible refine at_list ?_; refine wpList_wide_g rfl rfl Try.underlying22 Try.underlying40 rfl ?_; intro r n hr0; have hr := hr0 _ (by first | with_reducible assumption | exact rfl); clear hr0) | (with_reducible refine at_list ?_; refine wpList_wide rfl rfl rfl Try.underlying22 Try.underlying40 ?_; intro r n hr0; have hr := hr0 _ (by first | with_reducible assumption | exact rfl); clear hr0) | (go_at_call 123; first | (refine (HN.out _ _ HSa.out (by omega)).mono ?_; rintro e w2 ⟨r2, rfl, hr2, hg2, hz2, hs2⟩; have HSb := Lib.hid hs2; have HGb := Lib.hid hg2; have HZb := Lib.hid hz2; clear hs2 hg2 hz2) | (refine (HN.out _ _ HS.out (by omega)).mono ?_; rintro e w' ⟨r, rfl, hr, hg, hz, hs⟩; have HSa := Lib.hid hs; have HGa := Lib.hid hg; have HZa := Lib.hid hz; clear hs hg hz)))
    go_ret
    obtain ⟨hb1, hb2⟩ := rem_bd (x := r) (n := n) (by omega) hn1
    exact ⟨_, rfl, ⟨by go_num, by go_num⟩, HGa.out, HZa.out, HSa.out.mono (by omega)⟩
end Go.Proofs.Ytjeeflldbhajiaa
set_option linter.unusedSimpArgs false
set_option linter.unusedVariables false
set_option linter.unusedSectionVars false
namespace Go.Proofs.Ytjeeflldbhajiaa
open Go Go.RowKit
/-- A claim; of an operation that turns memory (mode 3) also what holds of every world from it on. Mode 4: it asks only what always holds, and nothing is told of it but its value. -/
structure GC where
  c : Clm
  I : World → Prop
  kept : ∀ w w', I w → Below w.heap.size w w' → I w'
def GC.of (c : Clm) : GC := ⟨c, fun _ => True, fun _ _ _ _ => trivial⟩
def invG (I : World → Prop) (g : GC) : World → Prop := match g.c.mode with | 3 => g.I | _ => I
def nextG (c : Clm) (i : Nat) (k : World → Prop) (ks : List (Nat × (World → Prop))) : List (Nat × (World → Prop)) :=
  match c.mode with | 0 => ks | 4 => ks | 3 => [(i, k)] | _ => (i, k) :: ks
section
variable {P : Program} {ops : Array Oper} {Q : Exit → Act → World → Prop} {F : World → Prop}
def stepG (P : Program) (ops : Array Oper) (F I : World → Prop) (o : Oper) (g : GC) (ks : List (Nat × (World → Prop))) (a : Act) : Prop :=
  (Region.wanted o (yielded ops a.tmps) = true ∧ (g.c.mode = 0 ∨ g.c.mode = 1 ∨ g.c.mode = 3 ∨ g.c.mode = 4) ∧
    (g.c.mode = 0 → ∀ w, uponC P (fun u w' => (∃ n, w' = w.drewN n) ∧ g.c.S (o.op.operands.toList.map a.eval) u) ((execOp a.eval o).run P w)) ∧
    (g.c.mode = 4 → (∀ x v w, g.c.K x v w) ∧ ∀ w, F w → uponC P (fun u w' => Below w.heap.size w w' ∧ g.c.S (o.op.operands.toList.map a.eval) u) ((execOp a.eval o).run P w)) ∧
    (g.c.mode = 1 → ∀ w, I w → depK o ks w → uponC P (fun u w' => Below w.heap.size w w' ∧ g.c.S (o.op.operands.toList.map a.eval) u ∧ g.c.K (oargs ops o a) u w') ((execOp a.eval o).run P w)) ∧
    (g.c.mode = 3 → ∀ w, I w → depK o ks w → uponC P (fun u w' => g.I w' ∧ g.c.S (o.op.operands.toList.map a.eval) u ∧ g.c.K (oargs ops o a) u w') ((execOp a.eval o).run P w))) ∨
  (Region.wanted o (yielded ops a.tmps) = false ∧ g.c.mode = 0 ∧ g.c.S (o.op.operands.toList.map a.eval) undef)
/-- The walk in the order of the text. -/
def wpG (P : Program) (ops : Array Oper) (Q : Exit → Act → World → Prop) (F : World → Prop) : (World → Prop) → List Oper → List GC → Nat → List (Nat × (World → Prop)) → Act → Prop
  | I, [], [], _, ks, a => ∀ w, I w → allK ks w → Q .normal a w
  | I, o :: l, g :: cs, i, ks, a => stepG P ops F I o g ks a ∧ ∀ v, g.c.S (o.op.operands.toList.map a.eval) v → wpG P ops Q F (invG I g) l cs (i + 1) (nextG g.c i (g.c.K (oargs ops o a) v) ks) (a.put o.dst v)
  | _, _, _, _, _, _ => False
/-- What holds of the world ahead of operation number j. -/
def Iat (I : World → Prop) : List GC → Nat → World → Prop
  | _, 0 => I
  | [], _ + 1 => I
  | g :: cs, j + 1 => Iat (invG I g) cs j
theorem Iat_zero (I : World → Prop) (cs : List GC) : Iat I cs 0 = I := by cases cs <;> rfl
theorem Iat_succ : ∀ (I : World → Prop) (cs : List GC) (j : Nat) (g : GC), cs[j]? = some g → Iat I cs (j + 1) = invG (Iat I cs j) g
  | I, [], j, g, h => by simp at h
  | I, g' :: cs, 0, g, h => by
    simp only [List.getElem?_cons_zero, Option.some.injEq] at h
    subst h
    show Iat (invG I g') cs 0 = invG (Iat I (g' :: cs) 0) g'
    rw [Iat_zero, Iat_zero]
  | I, g' :: cs, j + 1, g, h => by
    show Iat (invG I g') cs (j + 1) = invG (Iat (invG I g') cs j) g
    exact Iat_succ _ cs j g (by simpa using h)
theorem invG_ne {I : World → Prop} {g : GC} (h : g.c.mode ≠ 3) : invG I g = I := by
  unfold invG
  split
  · exact absurd (by assumption) h
  · rfl
theorem invG_eq {I : World → Prop} {g : GC} (h : g.c.mode = 3) : invG I g = g.I := by
  unfold invG
  split
  · rfl
  · exact absurd h (by assumption)
theorem Iat_over (I : World → Prop) (cs : List GC) : ∀ (d p : Nat), (∀ k g, p ≤ k → k < p + d → cs[k]? = some g → g.c.mode ≠ 3) → p + d ≤ cs.length → Iat I cs (p + d) = Iat I cs p
  | 0, _, _, _ => rfl
  | d + 1, p, h, hl => by
    have hg : cs[p + d]? = some cs[p + d] := List.getElem?_eq_getElem (by omega)
    rw [show p + (d + 1) = (p + d) + 1 by omega, Iat_succ _ _ _ _ hg, invG_ne (h (p + d) _ (by omega) (by omega) hg)]
    exact Iat_over I cs d p (fun k g h1 h2 => h k g h1 (by omega)) (by omega)
theorem Iat_kept {I : World → Prop} (hI : ∀ w w', I w → Below w.heap.size w w' → I w') : ∀ (cs : List GC) (j : Nat) (w w' : World), Iat I cs j w → Below w.heap.size w w' → Iat I cs j w'
  | cs, 0, w, w', h, hb => by rw [Iat_zero] at h ⊢; exact hI w w' h hb
  | [], j + 1, w, w', h, hb => hI w w' h hb
  | g :: cs, j + 1, w, w', h, hb => by
    refine Iat_kept (I := invG I g) (fun w w' h hb => ?_) cs j w w' h hb
    by_cases hm : g.c.mode = 3
    · rw [invG_eq hm] at h ⊢; exact g.kept w w' h hb
    · rw [invG_ne hm] at h ⊢; exact hI w w' h hb
theorem Iat_float {I F : World → Prop} (hI : ∀ w, I w → F w) : ∀ (cs : List GC) (j : Nat) (w : World), (∀ g ∈ cs, g.c.mode = 3 → ∀ w, g.I w → F w) → Iat I cs j w → F w
  | cs, 0, w, _, h => by rw [Iat_zero] at h; exact hI w h
  | [], j + 1, w, _, h => hI w h
  | g :: cs, j + 1, w, hg, h => by
    refine Iat_float (I := invG I g) (fun w h => ?_) cs j w (fun g' hg' => hg g' (List.mem_cons_of_mem _ hg')) h
    by_cases hm : g.c.mode = 3
    · rw [invG_eq hm] at h; exact hg g (by simp) hm w h
    · rw [invG_ne hm] at h; exact hI w h
/-- The claims that still stand. -/
def standsG (ops : Array Oper) (V : Nat → Value) (l : List Oper) (cs : List GC) (i : Nat) (a : Act) (w : World) (n : Nat) (X : Nat → Prop) : Prop :=
  ∀ (k : Nat) (o : Oper) (c : GC), k < n → l[k]? = some o → cs[k]? = some c → X (i + k) → (∀ (b : Nat) (cb : GC), k < b → b < n → cs[b]? = some cb → cb.c.mode ≠ 3) → c.c.K (opx ops V l i a k o) (V (i + k)) w
theorem standsG_tail {V : Nat → Value} {o : Oper} {l : List Oper} {c : GC} {cs : List GC} {i : Nat} {a : Act} {w : World} {n : Nat} {X : Nat → Prop} (h : standsG ops V (o :: l) (c :: cs) i a w (n + 1) X) : standsG ops V l cs (i + 1) (a.put o.dst (V i)) w n X := by
  intro k o' c' hk ho hc hX hb
  have := h (k + 1) o' c' (by omega) (by simpa using ho) (by simpa using hc) (by simpa [Nat.add_assoc, Nat.add_comm 1 k] using hX) (fun b cb h1 h2 h3 => by
    obtain ⟨b, rfl⟩ : ∃ b', b = b' + 1 := ⟨b - 1, by omega⟩
    exact hb b cb (by omega) (by omega) (by simpa using h3))
  rw [opx_succ] at this
  simpa [Nat.add_assoc, Nat.add_comm 1 k] using this
theorem nextG_dep {o : Oper} {c : Clm} {i : Nat} {k : World → Prop} {ks : List (Nat × (World → Prop))} {w : World} (h1 : depB o i = true → k w) (h2 : c.mode ≠ 3 → depK o ks w) : depK o (nextG c i k ks) w := by
  have h3 : (match depB o i with | true => k w | false => True) := by
    cases hd : depB o i with
    | false => trivial
    | true => exact h1 hd
  unfold nextG
  split
  · exact h2 (by omega)
  · exact h2 (by omega)
  · exact ⟨h3, trivial⟩
  · exact ⟨h3, h2 (by assumption)⟩
theorem nextG_all {c : Clm} {i : Nat} {k : World → Prop} {ks : List (Nat × (World → Prop))} {w : World} (h1 : k w) (h2 : c.mode ≠ 3 → allK ks w) : allK (nextG c i k ks) w := by
  unfold nextG
  split
  · exact h2 (by omega)
  · exact h2 (by omega)
  · exact ⟨h1, trivial⟩
  · exact ⟨h1, h2 (by assumption)⟩
def noBarG (cs : List GC) (n : Nat) : Prop := ∀ (b : Nat) (cb : GC), b < n → cs[b]? = some cb → cb.c.mode ≠ 3
def validG (V : Nat → Value) (l : List Oper) (cs : List GC) (i : Nat) (a : Act) : Prop := ∀ (k : Nat) (o : Oper) (c : GC), l[k]? = some o → cs[k]? = some c → c.c.S (opn V l i a k o) (V (i + k))
/-- What the walk in the order of the text has told of each operation. -/
theorem wpG_unroll {V : Nat → Value} : ∀ (I : World → Prop) (l : List Oper) (cs : List GC) (i : Nat) (ks : List (Nat × (World → Prop))) (a : Act), wpG P ops Q F I l cs i ks a → validG V l cs i a →
    (∀ j o, l[j]? = some o → ∃ c ks', cs[j]? = some c ∧ stepG P ops F (Iat I cs j) o c ks' (puts V (fun k => decide (k < i + j)) l i a) ∧ ∀ w, standsG ops V l cs i a w j (fun k => depB o k = true) → (noBarG cs j → depK o ks w) → depK o ks' w) ∧
    (∀ w, Iat I cs cs.length w → standsG ops V l cs i a w cs.length (fun _ => True) → (noBarG cs cs.length → allK ks w) → Q .normal (puts V (fun _ => true) l i a) w)
  | I, [], [], i, ks, a, h, hV => ⟨fun j o hj => by simp at hj, fun w hb _ hk => h w hb (hk fun b cb h1 => by simp at h1)⟩
  | I, [], c :: cs, i, ks, a, h, hV => (by unfold wpG at h; exact h.elim)
  | I, o :: l, [], i, ks, a, h, hV => (by unfold wpG at h; exact h.elim)
  | I, o :: l, c :: cs, i, ks, a, h, hV => by
    simp only [wpG] at h
    obtain ⟨h1, h2⟩ := h
    have hS := hV 0 o c (by simp) (by simp)
    rw [opn_zero] at hS
    have ih := wpG_unroll (invG I c) l cs (i + 1) _ (a.put o.dst (V i)) (h2 _ hS) (fun k o' c' ho hk => by
      have := hV (k + 1) o' c' (by simpa using ho) (by simpa using hk)
      rw [opn_succ] at this
      simpa [Nat.add_assoc, Nat.add_comm 1 k] using this)
    have bars : ∀ n, noBarG cs n → ∀ (b : Nat) (cb : GC), 0 < b → b < n + 1 → (c :: cs)[b]? = some cb → cb.c.mode ≠ 3 := fun n hn b cb h1 h2 h3 => by
      obtain ⟨b, rfl⟩ : ∃ b', b = b' + 1 := ⟨b - 1, by omega⟩
      exact hn b cb (by omega) (by simpa using h3)
    have bars' : ∀ n, noBarG cs n → c.c.mode ≠ 3 → noBarG (c :: cs) (n + 1) := fun n hn hc b cb h2 h3 => by
      cases b with
      | zero => simp at h3; subst h3; exact hc
      | succ b => exact hn b cb (by omega) (by simpa using h3)
    refine ⟨fun j o' hj => ?_, fun w hb hk hks => ?_⟩
    · cases j with
      | zero =>
        simp only [List.getElem?_cons_zero, Option.some.injEq] at hj
        subst hj
        refine ⟨c, ks, by simp, ?_, fun w _ hk => hk fun b cb h1 => by omega⟩
        rw [puts_none (o :: l) i a fun k hk => by simpa using hk]
        exact h1
      | succ j =>
        simp only [List.getElem?_cons_succ] at hj
        have e : i + (j + 1) = i + 1 + j := by omega
        have ep : puts V (fun k => decide (k < i + (j + 1))) (o :: l) i a = puts V (fun k => decide (k < i + 1 + j)) l (i + 1) (a.put o.dst (V i)) := by
          simp only [puts, e, show i < i + 1 + j by omega, decide_true, if_true]
        obtain ⟨c', ks', g1, g2, g3⟩ := ih.1 j o' hj
        refine ⟨c', ks', by simpa using g1, by rw [ep]; exact g2, fun w hw hk => g3 w (standsG_tail hw) fun hn => ?_⟩
        refine nextG_dep (fun hd => ?_) fun hc => hk (bars' _ hn hc)
        have := hw 0 o c (by omega) (by simp) (by simp) (by simpa using hd) (bars _ hn)
        rw [opx_zero] at this
        exact this
    · simp only [puts, if_true]
      refine ih.2 w hb (standsG_tail hk) fun hn => ?_
      refine nextG_all ?_ fun hc => hks (bars' _ hn hc)
      have := hk 0 o c (by simp) (by simp) (by simp) trivial (bars _ hn)
      rw [opx_zero] at this
      exact this
/-- What turns memory stands apart from all that asks the world. -/
def barG (ops : Array Oper) (ms : List Nat) : Bool := (List.range ops.size).all fun i => !(ms[i]? == some 3) || (List.range ops.size).all fun j => j == i || (ms[j]? == some 0) || (ms[j]? == some 4) ||
  (decide (j < i) && reachB ops 6 i j) || (decide (i < j) && reachB ops 6 j i)
theorem barG_spec {cs : List GC} (h : barG ops (cs.map (·.c.mode)) = true) {i j : Nat} {oi oj : Oper} {ci cj : GC} (hi : ops[i]? = some oi) (hj : ops[j]? = some oj) (hci : cs[i]? = some ci) (hcj : cs[j]? = some cj) (h2 : ci.c.mode = 3) (h0 : cj.c.mode ≠ 0) (h4 : cj.c.mode ≠ 4) (hne : j ≠ i) :
    (j < i ∧ reachB ops 6 i j = true) ∨ (i < j ∧ reachB ops 6 j i = true) := by
  have hlti : i < ops.size := (Array.getElem?_eq_some_iff.1 hi).1
  have hltj : j < ops.size := (Array.getElem?_eq_some_iff.1 hj).1
  have := List.all_eq_true.1 h i (List.mem_range.2 hlti)
  simp only [List.getElem?_map, hci, Option.map_some, h2, BEq.rfl, Bool.not_true, Bool.false_or] at this
  have := List.all_eq_true.1 this j (List.mem_range.2 hltj)
  simp only [hi, hj, hcj, Option.map_some, Option.getD_some, Bool.or_eq_true, Bool.and_eq_true, decide_eq_true_eq, beq_iff_eq, Option.some.injEq] at this
  rcases this with (((h | h) | h) | h) | h
  · exact absurd h hne
  · exact absurd h h0
  · exact absurd h h4
  · exact .inl h
  · exact .inr h
variable {cs : List GC} {a0 : Act}
theorem wpAny_planG (I0 : World → Prop) (hI0 : ∀ w w', I0 w → Below w.heap.size w w' → I0 w') (hF0 : ∀ w, I0 w → F w) (hFs : ∀ g ∈ cs, g.c.mode = 3 → ∀ w, g.I w → F w)
    (hB : planB ops = true) (hbar : barG ops (cs.map (·.c.mode)) = true) (hlen : cs.length = ops.size) (hw : wpG P ops Q F I0 ops.toList cs 0 [] a0) :
    ∀ (fuel : Nat) (listed : Array Bool) (a : Act) (w : World) (V : Nat → Value), listed.size = ops.size →
      (∀ (k : Nat) (o : Oper) (c : GC), listed.getD k false = true → ops[k]? = some o → cs[k]? = some c → c.c.S (opn V ops.toList 0 a0 k o) (V k)) →
      a = puts V (fun k => listed.getD k false) ops.toList 0 a0 →
      (∃ p, p ≤ cs.length ∧ (∀ k g, cs[k]? = some g → g.c.mode = 3 → (listed.getD k false = true ↔ k < p)) ∧ Iat I0 cs p w) →
      (∀ (k : Nat) (o : Oper) (c : GC), listed.getD k false = true → ops[k]? = some o → cs[k]? = some c → (∀ (b : Nat) (cb : GC), k < b → cs[b]? = some cb → listed.getD b false = true → cb.c.mode ≠ 3) → c.c.K (opx ops V ops.toList 0 a0 k o) (V k) w) →
      (∀ j o, ops[j]? = some o → listed.getD j false = true → ∀ k, depB o k = true → listed.getD k false = true) →
      cnt (fun k => listed.getD k false) ops.size ≤ fuel → wpAny P .any ops Q fuel listed a w := by
  obtain ⟨hsel, hpl⟩ := planB_spec hB
  have full : ∀ (listed : Array Bool) (a : Act) (w : World) (V : Nat → Value),
      (∀ (k : Nat) (o : Oper) (c : GC), listed.getD k false = true → ops[k]? = some o → cs[k]? = some c → c.c.S (opn V ops.toList 0 a0 k o) (V k)) → a = puts V (fun k => listed.getD k false) ops.toList 0 a0 →
      (∃ p, p ≤ cs.length ∧ (∀ k g, cs[k]? = some g → g.c.mode = 3 → (listed.getD k false = true ↔ k < p)) ∧ Iat I0 cs p w) →
      (∀ (k : Nat) (o : Oper) (c : GC), listed.getD k false = true → ops[k]? = some o → cs[k]? = some c → (∀ (b : Nat) (cb : GC), k < b → cs[b]? = some cb → listed.getD b false = true → cb.c.mode ≠ 3) → c.c.K (opx ops V ops.toList 0 a0 k o) (V k) w) →
      (∀ j, j < ops.size → listed.getD j false = true) → Q .normal a w := by
    intro listed a w V hV ha hb hK hall
    have hI : Iat I0 cs cs.length w := by
      obtain ⟨p, hp, h1, h2⟩ := hb
      have := Iat_over I0 cs (cs.length - p) p (fun k g hpk _ hg hm => by
        have hk := (h1 k g hg hm).1 (hall k (by have := (List.getElem?_eq_some_iff.1 hg).1; omega))
        omega) (by omega)
      rw [show p + (cs.length - p) = cs.length by omega] at this
      rw [this]; exact h2
    have := (wpG_unroll (V := V) I0 ops.toList cs 0 [] a0 hw (fun k o c ho hk => by
      have ho' : ops[k]? = some o := by simpa using ho
      simpa using hV k o c (hall k (Array.getElem?_eq_some_iff.1 ho').1) ho' hk)).2 w hI
      (fun k o c hlt ho hk _ hnb => by
        have ho' : ops[k]? = some o := by simpa using ho
        have := hK k o c (hall k (by omega)) ho' hk (fun b cb h1 h2 h3 => hnb b cb h1 (List.getElem?_eq_some_iff.1 h2).1 h2)
        simpa using this) (fun _ => trivial)
    rw [ha, puts_congr (V' := V) (D' := fun _ => true) ops.toList 0 a0 fun k _ h2 => ⟨hall k (by simpa using h2), fun _ => rfl⟩]
    exact this
  intro fuel
  induction fuel with
  | zero =>
    intro listed a w V hsz hV ha hb hK hdown hcnt
    have hall := cnt_zero (Nat.le_zero.1 hcnt)
    refine ⟨?_, full listed a w V hV ha hb hK hall⟩
    refine List.eq_nil_iff_forall_not_mem.2 fun j hj => ?_
    obtain ⟨h0, o, ho, _⟩ := mem_ready.1 hj
    have hlt : j < ops.size := (Array.getElem?_eq_some_iff.1 ho).1
    have := hall j hlt
    simp only [Array.getD_eq_getD_getElem?] at h0 this
    rw [Array.getElem?_eq_getElem (by omega)] at h0 this
    simp at h0 this
    rw [h0] at this; cases this
  | succ fuel ih =>
    intro listed a w V hsz hV ha hb hK hdown hcnt
    have conv : ∀ j, j < ops.size → listed.getD j true = listed.getD j false := fun j hj => by
      simp only [Array.getD_eq_getD_getElem?]
      rw [Array.getElem?_eq_getElem (by omega)]; rfl
    refine ⟨fun hnil => ?_, fun i hi => ?_⟩
    · have hall : ∀ j, j < ops.size → listed.getD j false = true := by
        intro j
        induction j using Nat.strongRecOn with
        | ind j ihj =>
          intro hj
          cases hl : listed.getD j false with
          | true => rfl
          | false =>
            have : j ∈ Region.ready .any ops listed := mem_ready.2 ⟨by rw [conv j hj]; exact hl, ops[j], Array.getElem?_eq_getElem hj, fun e he hbd => by
              have hd : depB ops[j] e.on = true := by
                rw [depB_iff]
                obtain ⟨k, hk, rfl⟩ := Array.mem_iff_getElem.1 he
                exact ⟨k, hk, by simp [hbd]⟩
              have hlt := (hpl j ops[j] (Array.getElem?_eq_getElem hj)).1 _ hd
              exact ihj _ hlt (by omega)⟩
            rw [hnil] at this; cases this
      exact full listed a w V hV ha hb hK hall
    · obtain ⟨h0, o, ho, hafter⟩ := mem_ready.1 hi
      have hlt : i < ops.size := (Array.getElem?_eq_some_iff.1 ho).1
      have h0' : listed.getD i false = false := by rw [← conv i hlt]; exact h0
      have hdeps : ∀ k, depB o k = true → listed.getD k false = true := fun k hk => by
        rw [depB_iff] at hk
        obtain ⟨q, hq, hk⟩ := hk
        simp only [Bool.and_eq_true, beq_iff_eq] at hk
        have := hafter o.after[q] (Array.getElem_mem hq) hk.2
        rw [hk.1] at this; exact this
      have hgo : ∀ j, (listed.setIfInBounds i true).getD j false = (j == i || listed.getD j false) := fun j => by
        by_cases hji : j = i
        · subst hji; simp [show j < listed.size by omega]
        · rw [getD_set_ne false (fun e => hji e.symm)]; simp [hji]
      obtain ⟨V1, hV1, hval0⟩ := extend (cs := cs.map (·.c)) (a0 := a0) hB V (fun k => listed.getD k false) hdown (fun k o c h1 h2 h3 => by
        rw [List.getElem?_map] at h3
        obtain ⟨g, hg, rfl⟩ := Option.map_eq_some_iff.1 h3
        exact hV k o g h1 h2 hg)
      have hval : validG V1 ops.toList cs 0 a0 := fun k o g h1 h2 => hval0 k o g.c h1 (by rw [List.getElem?_map, h2]; rfl)
      have hlook : ∀ t ∈ o.looksAt ops, (puts V1 (fun k => decide (k < 0 + i)) ops.toList 0 a0).tmps[t]? = a.tmps[t]? := fun t ht => by
        rw [ha]
        refine puts_look ops.toList 0 a0 a0 (fun k ok hk hd => ?_) rfl
        have hk' : ops[k]? = some ok := by simpa using hk
        simp only [Nat.zero_add]
        rcases ((hpl i o ho).2 k ok t hk' hd).1 ht with hdep | ⟨hik, hdep⟩
        · have h1 := (hpl i o ho).1 k hdep
          have h2 := hdeps k hdep
          exact ⟨by rw [h2]; simpa using h1, fun _ => hV1 k h2⟩
        · refine ⟨?_, fun hD => by simp at hD; omega⟩
          cases hl : listed.getD k false with
          | false => simp; omega
          | true => have := hdown k ok hk' hl i hdep; rw [h0'] at this; cases this
      obtain ⟨he, hwn⟩ := exec_look (ops := ops) (hsel i o · · ho) hlook
      have hoa : o.op.operands.toList.map (puts V1 (fun k => decide (k < 0 + i)) ops.toList 0 a0).eval = opn V ops.toList 0 a0 i o := opn_congr (V' := V) hB ho fun j hj => hV1 j (hdeps j hj)
      have hoax : oargs ops o (puts V1 (fun k => decide (k < 0 + i)) ops.toList 0 a0) = opx ops V ops.toList 0 a0 i o := opx_congr (V' := V) hB ho fun j hj => hV1 j (hdeps j hj)
      obtain ⟨c, ks', g1, g2, g3⟩ := (wpG_unroll (V := V1) I0 ops.toList cs 0 [] a0 hw hval).1 i o (by simpa using ho)
      have hi' : i < cs.length := (List.getElem?_eq_some_iff.1 g1).1
      have hks : c.c.mode ≠ 0 → c.c.mode ≠ 4 → depK o ks' w := fun hm0 hm4 => g3 w (fun k ok ck hki hok hck hd hnb => by
          have hok' : ops[k]? = some ok := by simpa using hok
          have hd' : depB o k = true := by simpa using hd
          have hDk := hdeps k hd'
          have := hK k ok ck hDk hok' hck (fun b cb hkb hcb hDb hm => by
            have hbl : b < cs.length := (List.getElem?_eq_some_iff.1 hcb).1
            have hob : ops[b]? = some ops[b] := Array.getElem?_eq_getElem (by omega)
            by_cases hbi : b < i
            · exact hnb b cb hkb hbi hcb hm
            · have hbne : i ≠ b := by rintro rfl; rw [h0'] at hDb; cases hDb
              rcases barG_spec hbar hob ho hcb g1 hm hm0 hm4 hbne with ⟨_, h⟩ | ⟨h, _⟩
              · have := reachB_down (D := fun k => listed.getD k false) hdown 6 b i h hDb
                rw [h0'] at this; cases this
              · omega)
          rw [opx_congr (V' := V) hB hok' fun j hj => hV1 j (hdown k ok hok' hDk j hj)]
          simpa [hV1 k hDk] using this) (fun _ => trivial)
      obtain ⟨p, hp, hp1, hp2⟩ := hb
      have hFw : F w := Iat_float hF0 cs p w hFs hp2
      /- ahead of an operation that asks the world those that turn memory are done just as far as the text -/
      have hbefore : c.c.mode ≠ 0 → c.c.mode ≠ 4 → ∀ k g, cs[k]? = some g → g.c.mode = 3 → (listed.getD k false = true ↔ k < i) := fun hm0 hm4 k g hg hm => by
        have hkl : k < cs.length := (List.getElem?_eq_some_iff.1 hg).1
        have hok : ops[k]? = some ops[k] := Array.getElem?_eq_getElem (by omega)
        constructor
        · intro hl
          rcases Nat.lt_or_ge k i with h | h
          · exact h
          · have hne : i ≠ k := by rintro rfl; rw [h0'] at hl; cases hl
            rcases barG_spec hbar hok ho hg g1 hm hm0 hm4 hne with ⟨_, h'⟩ | ⟨h', _⟩
            · have := reachB_down (D := fun k => listed.getD k false) hdown 6 k i h' hl
              rw [h0'] at this; cases this
            · omega
        · intro hki
          rcases barG_spec hbar hok ho hg g1 hm hm0 hm4 (by omega) with ⟨h', _⟩ | ⟨_, h'⟩
          · omega
          · unfold reachB at h'
            rw [ho] at h'
            simp only [Bool.or_eq_true] at h'
            rcases h' with h' | h'
            · exact hdeps k h'
            · obtain ⟨q, _, hq⟩ := List.any_eq_true.1 h'
              rw [Bool.and_eq_true] at hq
              exact reachB_down (D := fun k => listed.getD k false) hdown 5 q k hq.2 (hdeps q hq.1)
      have hIat : c.c.mode ≠ 0 → c.c.mode ≠ 4 → Iat I0 cs i w := fun hm0 hm4 => by
        have hb' := hbefore hm0 hm4
        rcases Nat.lt_or_ge p i with h | h
        · have := Iat_over I0 cs (i - p) p (fun k g h1 h2 hg hm => by
            have := (hp1 k g hg hm).1 ((hb' k g hg hm).2 (by omega)); omega) (by omega)
          rw [show p + (i - p) = i by omega] at this
          rw [this]; exact hp2
        · have := Iat_over I0 cs (p - i) i (fun k g h1 h2 hg hm => by
            have := (hb' k g hg hm).1 ((hp1 k g hg hm).2 (by omega)); omega) (by omega)
          rw [show i + (p - i) = p by omega] at this
          rw [← this]; exact hp2
      have next : ∀ u w', (c.c.mode ≠ 3 → Below w.heap.size w w') ∧ (c.c.mode = 3 → c.I w') ∧ c.c.S (opn V ops.toList 0 a0 i o) u ∧ c.c.K (opx ops V ops.toList 0 a0 i o) u w' → wpAny P .any ops Q fuel (listed.setIfInBounds i true) (a.put o.dst u) w' := by
          rintro u w' ⟨hbl, hbW, hSu, hKu⟩
          have opnU : ∀ k ok, ops[k]? = some ok → (k = i ∨ listed.getD k false = true) → opn (fun q => if q = i then u else V q) ops.toList 0 a0 k ok = opn V ops.toList 0 a0 k ok := fun k ok hok hk =>
            opn_congr hB hok fun j hj => by
              have : j ≠ i := by
                rintro rfl
                rcases hk with rfl | hk
                · have := (hpl k ok hok).1 k hj; omega
                · have := hdown k ok hok hk j hj
                  rw [h0'] at this; cases this
              simp [this]
          have opxU : ∀ k ok, ops[k]? = some ok → (k = i ∨ listed.getD k false = true) → opx ops (fun q => if q = i then u else V q) ops.toList 0 a0 k ok = opx ops V ops.toList 0 a0 k ok := fun k ok hok hk =>
            opx_congr hB hok fun j hj => by
              have : j ≠ i := by
                rintro rfl
                rcases hk with rfl | hk
                · have := (hpl k ok hok).1 k hj; omega
                · have := hdown k ok hok hk j hj
                  rw [h0'] at this; cases this
              simp [this]
          refine ih (listed.setIfInBounds i true) _ w' (fun k => if k = i then u else V k) (by simpa using hsz) (fun k ok c' hl hok hk => ?_) ?_ ?_ (fun k ok c' hl hok hk hnb => ?_) (fun j oj hj hl k hd => ?_) ?_
          · rw [hgo] at hl
            by_cases hki : k = i
            · subst hki
              rw [hk] at g1; cases g1
              rw [hok] at ho; cases ho
              rw [opnU k _ hok (.inl rfl)]
              simpa using hSu
            · have hl : listed.getD k false = true := by simpa [hki] using hl
              rw [opnU k ok hok (.inr hl)]
              simpa [hki] using hV k ok c' hl hok hk
          · rw [ha, puts_put ops.toList 0 i a0 (by simpa using ho) (by simpa using h0') (fun k o' hk hne d hd => ?_)]
            · exact puts_congr ops.toList 0 a0 fun k _ _ => ⟨by simp only [Nat.zero_add]; exact (hgo k).symm, fun _ => by simp⟩
            · exact ((hpl k o' (by simpa using hk)).2 i o d ho hd).2 hne
          · by_cases hm3 : c.c.mode = 3
            · refine ⟨i + 1, by omega, fun k g hg hm => ?_, ?_⟩
              · rw [hgo]
                have := hbefore (by omega) (by omega) k g hg hm
                by_cases hki : k = i
                · subst hki; simp
                · simp only [beq_iff_eq, hki, Bool.or_eq_true, false_or]
                  rw [this]; omega
              · rw [Iat_succ _ _ _ _ g1, invG_eq hm3]; exact hbW hm3
            · refine ⟨p, hp, fun k g hg hm => ?_, Iat_kept hI0 cs p w w' hp2 (hbl hm3)⟩
              rw [hgo]
              by_cases hki : k = i
              · subst hki
                rw [hg] at g1; cases g1
                exact absurd hm hm3
              · simp only [beq_iff_eq, hki, Bool.or_eq_true, false_or]
                exact hp1 k g hg hm
          · by_cases hki : k = i
            · subst hki
              rw [hk] at g1; cases g1
              rw [hok] at ho; cases ho
              rw [opxU k _ hok (.inl rfl)]
              simpa using hKu
            · rw [hgo] at hl
              have hl : listed.getD k false = true := by simpa [hki] using hl
              rw [opxU k ok hok (.inr hl)]
              simp only [if_neg hki]
              by_cases hm0 : c'.c.mode = 0
              · exact c'.c.quiet hm0 _ _ _
              · by_cases hm4 : c'.c.mode = 4
                · obtain ⟨c4, ks4, q1, q2, _⟩ := (wpG_unroll (V := V1) I0 ops.toList cs 0 [] a0 hw hval).1 k ok (by simpa using hok)
                  rw [hk] at q1; cases q1
                  rcases q2 with ⟨_, _, _, q4, _⟩ | ⟨_, q0, _⟩
                  · exact (q4 hm4).1 _ _ _
                  · exact absurd q0 hm0
                · by_cases hm2 : c.c.mode = 3
                  · exfalso
                    rcases barG_spec hbar ho hok g1 hk hm2 hm0 hm4 hki with ⟨h, _⟩ | ⟨_, h⟩
                    · exact hnb i c h g1 (by rw [hgo]; simp) hm2
                    · have := reachB_down (D := fun k => listed.getD k false) hdown 6 k i h hl
                      rw [h0'] at this; cases this
                  · exact c'.c.keeps _ _ _ _ (hK k ok c' hl hok hk fun b cb h1 h2 h3 => hnb b cb h1 h2 (by rw [hgo, h3]; simp)) (hbl hm2)
          · rw [hgo] at hl ⊢
            by_cases hji : j = i
            · subst hji
              rw [hj] at ho; cases ho
              rw [hdeps k hd]; simp
            · have : listed.getD j false = true := by simpa [hji] using hl
              rw [hdown j oj hj this k hd]; simp
          · have := cnt_set (f := fun k => listed.getD k false) (g := fun k => (listed.setIfInBounds i true).getD k false) (i := i) h0' (by simp only [hgo]; simp) (fun j hj => by simp only [hgo]; simp [hj]) hlt
            omega
      unfold wpOp
      simp only [ho]
      unfold stepG at g2
      rw [hoa, hoax] at g2
      rcases g2 with ⟨k1, km, k0, k4, k5, k3⟩ | ⟨k1, k2, k3⟩
      · rw [← hwn, k1, if_pos rfl]
        rcases km with hm | hm | hm | hm
        · refine .inl (uponC_op (T := fun u w' => (∃ n, w' = w.drewN n) ∧ c.c.S (opn V ops.toList 0 a0 i o) u) (fun u w' hT => ?_) ?_)
          · obtain ⟨⟨n, rfl⟩, hS⟩ := hT
            exact next u _ ⟨fun _ => below_drewN (Below.refl _ _) _, fun h => by omega, hS, c.c.quiet hm _ _ _⟩
          · rw [← he]; exact k0 hm w
        · refine .inl (uponC_op (T := fun u w' => Below w.heap.size w w' ∧ c.c.S (opn V ops.toList 0 a0 i o) u ∧ c.c.K (opx ops V ops.toList 0 a0 i o) u w') (fun u w' hT => next u w' ⟨fun _ => hT.1, fun h => by omega, hT.2⟩) ?_)
          rw [← he]; exact k5 hm w (hIat (by omega) (by omega)) (hks (by omega) (by omega))
        · refine .inl (uponC_op (T := fun u w' => c.I w' ∧ c.c.S (opn V ops.toList 0 a0 i o) u ∧ c.c.K (opx ops V ops.toList 0 a0 i o) u w') (fun u w' hT => next u w' ⟨fun h => absurd hm h, fun _ => hT.1, hT.2⟩) ?_)
          rw [← he]; exact k3 hm w (hIat (by omega) (by omega)) (hks (by omega) (by omega))
        · refine .inl (uponC_op (T := fun u w' => Below w.heap.size w w' ∧ c.c.S (opn V ops.toList 0 a0 i o) u) (fun u w' hT => next u w' ⟨fun _ => hT.1, fun h => by omega, hT.2, (k4 hm).1 _ _ _⟩) ?_)
          rw [← he]; exact (k4 hm).2 w hFw
      · rw [← hwn, k1, if_neg (by simp)]
        exact next undef w ⟨fun _ => Below.refl _ _, fun h => by omega, k3, c.c.quiet k2 _ _ _⟩
/-- What always holds follows from each operation that turns memory. -/
def allF (F : World → Prop) : List GC → Prop
  | [] => True
  | g :: cs => (match g.c.mode with | 3 => ∀ w, g.I w → F w | _ => True) ∧ allF F cs
theorem allF_mem {F : World → Prop} : ∀ {cs : List GC}, allF F cs → ∀ g ∈ cs, g.c.mode = 3 → ∀ w, g.I w → F w
  | [], _, g, hg, _, _, _ => by cases hg
  | g' :: cs, h, g, hg, hm, w, hw => by
    rcases List.mem_cons.1 hg with rfl | hg
    · have h1 := h.1
      rw [hm] at h1
      exact h1 w hw
    · exact allF_mem h.2 g hg hm w hw
/-- ONE WALK OF THE ORDER OF THE TEXT SERVES EVERY ORDER. -/
theorem wp_region_planG {id : Nat} {a : Act} {W : World} {l : List Oper} {cs : List GC} (I0 : World → Prop) (hI0 : ∀ w w', I0 w → Below w.heap.size w w' → I0 w') (hW : I0 W) (hF0 : ∀ w, I0 w → F w)
    (hw : wpG P l.toArray Q F I0 l cs 0 [] a) (hFs : allF F cs) (hpr1 : P.follows .mixedOrders = true) (hpr2 : planB l.toArray = true) (hpr3 : barG l.toArray (cs.map (·.c.mode)) = true) (hlen : cs.length = l.length) : (Code.region id l.toArray true).wp P Q a W := by
  have hsz : l.toArray.size = l.length := by simp
  refine wp_region_any hpr1 ?_
  refine wpAny_planG (cs := cs) (a0 := a) I0 hI0 hF0 (allF_mem hFs) hpr2 hpr3 (by omega) (by simpa using hw) _ _ _ _ (fun _ => undef) (by simp) ?_ ?_ ?_ ?_ ?_ ?_
  · intro k o c hl
    exfalso
    simp only [Array.getD_eq_getD_getElem?] at hl
    by_cases hk : k < l.length <;> simp [hk] at hl
  · refine (puts_none _ _ _ fun k _ => ?_).symm
    simp only [Array.getD_eq_getD_getElem?]
    by_cases hk : k < l.length <;> simp [hk]
  · refine ⟨0, Nat.zero_le _, fun k g _ _ => ?_, ?_⟩
    · simp only [Array.getD_eq_getD_getElem?]
      by_cases hk : k < l.length <;> simp [hk]
    · rw [Iat_zero]; exact hI0 W _ hW ((Below.refl _ _).drew)
  · intro k o c hl
    exfalso
    simp only [Array.getD_eq_getD_getElem?] at hl
    by_cases hk : k < l.length <;> simp [hk] at hl
  · intro j o _ hl
    exfalso
    simp only [Array.getD_eq_getD_getElem?] at hl
    by_cases hk : j < l.length <;> simp [hk] at hl
  · have : ∀ (f : Nat → Bool) (n : Nat), cnt f n ≤ n := by
      intro f n
      induction n with
      | zero => exact Nat.le_refl _
      | succ n ih => simp only [cnt]; split <;> omega
    exact this _ _
end
section
variable {P : Program} {ops : Array Oper} {Q : Exit → Act → World → Prop} {F I : World → Prop} {l : List Oper} {cs : List GC} {i : Nat} {ks : List (Nat × (World → Prop))} {a : Act} {o : Oper}
theorem wpG_norm {a' : Act} (ha : a = a') (h : wpG P ops Q F I l cs i ks a') : wpG P ops Q F I l cs i ks a := ha ▸ h
theorem wpG_nil (h : ∀ w, I w → allK ks w → Q .normal a w) : wpG P ops Q F I [] [] i ks a := h
theorem wpG_pure (c : Clm) (hm : c.mode = 0) (hw : Region.wanted o (yielded ops a.tmps) = true) (h0 : ∀ w, uponC P (fun u w' => (∃ n, w' = w.drewN n) ∧ c.S (o.op.operands.toList.map a.eval) u) ((execOp a.eval o).run P w))
    (h : ∀ v, c.S (o.op.operands.toList.map a.eval) v → wpG P ops Q F I l cs (i + 1) ks (a.put o.dst v)) : wpG P ops Q F I (o :: l) (GC.of c :: cs) i ks a := by
  simp only [wpG]
  refine ⟨.inl ⟨hw, .inl hm, fun _ => h0, fun h => ?_, fun h => ?_, fun h => ?_⟩, fun v hv => ?_⟩
  · have : c.mode = 4 := h; omega
  · have : c.mode = 1 := h; omega
  · have : c.mode = 3 := h; omega
  · have e1 : invG I (GC.of c) = I := invG_ne (by show c.mode ≠ 3; omega)
    have e2 : nextG (GC.of c).c i ((GC.of c).c.K (oargs ops o a) v) ks = ks := by
      show nextG c i _ ks = ks
      unfold nextG
      split
      · rfl
      · rfl
      · omega
      · rename_i h0 _ _; exact absurd hm h0
    rw [e1, e2]; exact h v hv
theorem wpG_det (v : Value) (hw : Region.wanted o (yielded ops a.tmps) = true) (hs : ∀ cs b, o.op ≠ .select cs b) (h1 : ∀ w, (execOp a.eval o).run P w = .ok (.value v) w)
    (h : wpG P ops Q F I l cs (i + 1) ks (a.put o.dst v)) : wpG P ops Q F I (o :: l) (GC.of (Clm.det P o) :: cs) i ks a := by
  have hp : PureAt P o (o.op.operands.toList.map a.eval) v := ⟨⟨a, rfl⟩, fun a' w he => by
    rw [execOp_congr (ρ := a'.eval) (ρ' := a.eval) o hs fun x hx => ?_]
    · exact h1 w
    · have := List.map_inj_left.1 he x (by simpa using hx)
      exact this⟩
  refine wpG_pure (Clm.det P o) rfl hw (fun w => ?_) fun u hu => ?_
  · rw [h1 w]; exact ⟨⟨0, rfl⟩, fun u hu => hp.uniq hu⟩
  · rw [hu v hp]; exact h
theorem wpG_one (c : Clm) (hm : c.mode = 1) (hw : Region.wanted o (yielded ops a.tmps) = true) (h1 : ∀ w, I w → depK o ks w → uponC P (fun u w' => Below w.heap.size w w' ∧ c.S (o.op.operands.toList.map a.eval) u ∧ c.K (oargs ops o a) u w') ((execOp a.eval o).run P w))
    (h : ∀ v, c.S (o.op.operands.toList.map a.eval) v → wpG P ops Q F I l cs (i + 1) ((i, c.K (oargs ops o a) v) :: ks) (a.put o.dst v)) : wpG P ops Q F I (o :: l) (GC.of c :: cs) i ks a := by
  simp only [wpG]
  refine ⟨.inl ⟨hw, .inr (.inl hm), fun h => ?_, fun h => ?_, fun _ => h1, fun h => ?_⟩, fun v hv => ?_⟩
  · have : c.mode = 0 := h; omega
  · have : c.mode = 4 := h; omega
  · have : c.mode = 3 := h; omega
  · have e1 : invG I (GC.of c) = I := invG_ne (by show c.mode ≠ 3; omega)
    have e2 : nextG (GC.of c).c i ((GC.of c).c.K (oargs ops o a) v) ks = (i, c.K (oargs ops o a) v) :: ks := by
      show nextG c i _ ks = _
      unfold nextG
      split <;> first | omega | rfl
    rw [e1, e2]; exact h v hv
theorem wpG_val (v : Value) (hw : Region.wanted o (yielded ops a.tmps) = true) (h1 : ∀ w, I w → depK o ks w → (execOp a.eval o).run P w = .ok (.value v) w)
    (h : wpG P ops Q F I l cs (i + 1) ((i, fun _ => True) :: ks) (a.put o.dst v)) : wpG P ops Q F I (o :: l) (GC.of (Clm.one v) :: cs) i ks a := by
  refine wpG_one (Clm.one v) rfl hw (fun w hi hk => ?_) fun u hu => ?_
  · rw [h1 w hi hk]; exact ⟨Below.refl _ _, rfl, trivial⟩
  · have hu : u = v := hu
    subst hu; exact h
/-- A load of what never turns. -/
def Clm.any (v : Value) : Clm := ⟨4, fun _ u => u = v, fun _ _ _ => True, fun _ => ⟨v, rfl⟩, fun _ _ _ _ _ _ => trivial, fun h => nomatch h⟩
theorem wpG_any (v : Value) (hw : Region.wanted o (yielded ops a.tmps) = true) (h1 : ∀ w, F w → (execOp a.eval o).run P w = .ok (.value v) w)
    (h : wpG P ops Q F I l cs (i + 1) ks (a.put o.dst v)) : wpG P ops Q F I (o :: l) (GC.of (Clm.any v) :: cs) i ks a := by
  simp only [wpG]
  refine ⟨.inl ⟨hw, .inr (.inr (.inr rfl)), fun h => absurd (show (4 : Nat) = 0 from h) (by decide), fun _ => ⟨fun _ _ _ => trivial, fun w hF => ?_⟩, fun h => absurd (show (4 : Nat) = 1 from h) (by decide), fun h => absurd (show (4 : Nat) = 3 from h) (by decide)⟩, fun u hu => ?_⟩
  · rw [h1 w hF]; exact ⟨Below.refl _ _, rfl⟩
  · have hu : u = v := hu
    subst hu; exact h
/-- An operation that turns memory, with one value. -/
def GC.turn (v : Value) (I' K : World → Prop) (hI : ∀ w w', I' w → Below w.heap.size w w' → I' w') (hK : ∀ w w', K w → Below w.heap.size w w' → K w') : GC :=
  ⟨⟨3, fun _ u => u = v, fun _ _ w => K w, fun _ => ⟨v, rfl⟩, fun _ _ w w' h hb => hK w w' h hb, fun h => nomatch h⟩, I', hI⟩
theorem wpG_turn (v : Value) (I' K : World → Prop) (hI : ∀ w w', I' w → Below w.heap.size w w' → I' w') (hK : ∀ w w', K w → Below w.heap.size w w' → K w') (hw : Region.wanted o (yielded ops a.tmps) = true)
    (h1 : ∀ w, I w → depK o ks w → ∃ w', (execOp a.eval o).run P w = .ok (.value v) w' ∧ I' w' ∧ K w') (h : wpG P ops Q F I' l cs (i + 1) [(i, K)] (a.put o.dst v)) : wpG P ops Q F I (o :: l) (GC.turn v I' K hI hK :: cs) i ks a := by
  simp only [wpG]
  refine ⟨.inl ⟨hw, .inr (.inr (.inl rfl)), fun h => absurd (show (3 : Nat) = 0 from h) (by decide), fun h => absurd (show (3 : Nat) = 4 from h) (by decide), fun h => absurd (show (3 : Nat) = 1 from h) (by decide), fun _ w hi hk => ?_⟩, fun u hu => ?_⟩
  · obtain ⟨w', e, h2, h3⟩ := h1 w hi hk
    rw [e]; exact ⟨h2, rfl, h3⟩
  · have hu : u = v := hu
    subst hu; exact h
/-- A new variable. -/
theorem wpG_var {B : Nat} (hB : ∀ w, I w → B ≤ w.heap.size) (xs : List Value) (t : TypeId) (hw : Region.wanted o (yielded ops a.tmps) = true) (h1 : ∀ w, (execOp a.eval o).run P w = .ok (.value (.pointer (some ⟨w.heap.size, 0, none⟩))) (w.alloc (.cells xs.toArray t)))
    (h : ∀ b, wpG P ops Q F I l cs (i + 1) ((i, fun w => B ≤ b ∧ owned w b xs) :: ks) (a.put o.dst (.pointer (some ⟨b, 0, none⟩)))) : wpG P ops Q F I (o :: l) (GC.of (Clm.var B xs) :: cs) i ks a := by
  refine wpG_one (Clm.var B xs) rfl hw (fun w hi hk => ?_) ?_
  · rw [h1 w]
    exact ⟨(Below.refl _ _).alloc (Nat.le_refl _) _, ⟨_, rfl⟩, hB w hi, owned_alloc w xs t⟩
  · rintro v ⟨b, rfl⟩
    exact h b
/-- A store of a struct into a variable. -/
def Clm.put3 (B : Nat) : Clm := ⟨3, fun _ u => u = undef, fun x _ w => putK B (x.take 2) w, fun _ => ⟨undef, rfl⟩,
  fun x u w w' h hb => by
    revert h
    generalize x.take 2 = y
    intro h
    unfold putK at h ⊢
    split
    · exact ⟨h.1, h.2.later hb⟩
    · trivial, fun h => nomatch h⟩
theorem wpG_put {B : Nat} {ty : TypeId} {X Y : Operand} {b : Nat} {vs : Array Value} (olds : List Value) (I' : World → Prop) (hI : ∀ w w', I' w → Below w.heap.size w w' → I' w') (ho : o.op = .store ty X Y) (hx : a.eval X = .pointer (some ⟨b, 0, none⟩)) (hy : a.eval Y = .agg vs) (hn : olds.length = vs.size)
    (hi : (P.info? ty).map (·.size) = some vs.size) (h2 : vs.toList.all (·.oneCell') = true) (hw : Region.wanted o (yielded ops a.tmps) = true) (hk : ∀ w, depK o ks w → B ≤ b ∧ owned w b olds) (hI' : ∀ w, I w → B ≤ b → I' (w.setCells b 0 vs.toList))
    (h : wpG P ops Q F I' l cs (i + 1) [(i, fun w => B ≤ b ∧ owned w b vs.toList)] (a.put o.dst undef)) : wpG P ops Q F I (o :: l) (⟨Clm.put3 B, I', hI⟩ :: cs) i ks a := by
  have h1 : vs.all (·.oneCell') = true := Array.all_eq_true_iff_forall_mem.2 fun v hv => List.all_eq_true.1 h2 v (by simpa using hv)
  have hl : o.op.operands.toList.map a.eval = [.pointer (some ⟨b, 0, none⟩), .agg vs] := by rw [ho]; simp [Op.operands, hx, hy]
  have hl2 : (oargs ops o a).take 2 = [.pointer (some ⟨b, 0, none⟩), .agg vs] := by unfold oargs; rw [hl]; rfl
  simp only [wpG]
  refine ⟨.inl ⟨hw, .inr (.inr (.inl rfl)), fun h => absurd (show (3 : Nat) = 0 from h) (by decide), fun h => absurd (show (3 : Nat) = 4 from h) (by decide), fun h => absurd (show (3 : Nat) = 1 from h) (by decide), fun _ w hi' hkw => ?_⟩, fun u hu => ?_⟩
  · obtain ⟨hle, hown⟩ := hk w hkw
    have ht : w.there b 0 vs.size := fun j hj => by
      have hj' : j < olds.length := by omega
      have := hown j olds[j] (List.getElem?_eq_getElem hj')
      simp only [Nat.zero_add]
      exact ⟨by rw [this.1]; rfl, this.2⟩
    have hr : (execOp a.eval o).run P w = .ok .skip (w.setCells b 0 vs.toList) := by
      unfold execOp
      simp only [ho, hx, hy, Instr.storeAt, Instr.sureAddr, Sem.run_bind, Sem.run_pure, Result.andThen_ok, run_storeVar_mid w b 0 ty vs ht hi h1]
    rw [hr]
    refine ⟨hI' w hi' hle, rfl, ?_⟩
    show putK B ((oargs ops o a).take 2) _
    rw [hl2]
    refine ⟨hle, fun k x hx' => ⟨?_, ?_⟩⟩
    · have := World.rangeAt_setCells_same w b 0 vs.toList (by simpa using ht) k x hx'
      simpa using this
    · rw [World.frozen?_setCells]
      have hk' : k < vs.size := by simpa using (List.getElem?_eq_some_iff.1 hx').1
      have := (ht k hk').2
      simpa using this
  · have hu : u = undef := hu
    subst hu
    show wpG P ops Q F I' l cs (i + 1) [(i, fun w => putK B ((oargs ops o a).take 2) w)] _
    rw [hl2]; exact h
theorem below_setCells {B b : Nat} {W w : World} (h : Below B W w) (hb : B ≤ b) : ∀ (vs : List Value) (o : Nat), Below B W (w.setCells b o vs) := by
  intro vs
  induction vs generalizing w with
  | nil => intro o; exact h
  | cons v r ih => intro o; exact ih (Below.setCell h hb _) _
end
attribute [irreducible] wpG
end Go.Proofs.Ytjeeflldbhajiaa
set_option linter.unusedSimpArgs false
set_option linter.unusedVariables false
set_option linter.unusedSectionVars false
namespace Go.Proofs.Ytjeeflldbhajiaa
open Go Go.RowKit
open Go.ChangeShapes Go.WideShapes Go.ChangeAt Go.RowKit Go.Joins
theorem i64_fit {n : Int} (h : -9223372036854775808 ≤ n ∧ n ≤ 9223372036854775807) : IntKind.i64.wrap n = n := by
  simp [IntKind.wrap, IntKind.bits, IntKind.signed]
  omega
def Clm.pick (hi : Int) : Clm := ⟨3, fun _ v => ∃ r, v = .int .i64 r ∧ (0 ≤ hi → 0 ≤ r ∧ r ≤ hi), fun _ _ _ => True, fun _ => ⟨_, 0, rfl, fun h => ⟨by omega, h⟩⟩, fun _ _ _ _ _ _ => trivial, fun h => nomatch h⟩
theorem SrcAt.lt {w : World} {b K : Nat} (h : SrcAt w b K) : b < w.heap.size := by
  obtain ⟨p, n, c, k, s, ⟨h1, _⟩, _⟩ := h
  exact World.block_lt_of_cell? _ _ h1
section
variable {ops : Array Oper} {Q : Exit → Act → World → Prop} {F : World → Prop}
variable {l : List Oper} {cs : List GC} {i : Nat} {ks : List (Nat × (World → Prop))} {a : Act} {o : Oper}
end
theorem l00From_any (p : Option Addr) (n c : Nat) (w : World) (h : BY w.heap.size w p n c) (hn : n ≤ 1048576) : Calls Try.prog 94 #[.slice p n c] w (fun e w' => e = .returned (.pointer (some ⟨w.heap.size, 0, none⟩)) ∧ Below w.heap.size w w' ∧ SrcAt w' w.heap.size 0) := by
  have H := Lib.hid h
  clear h
  go_enter Try.func94, Try.ntmps94
  go_wp2_with (first | (with_reducible refine at_list ?_; refine wpList_fop rfl rfl rfl rfl rfl ?_; intro r n hr0; have hr := hr0 _ _ (by first | with_reducible assumption | exact rfl) (by first | with_reducible assumption | exact rfl); clear hr0) | (with_reducible refine at_list ?_; refine wpList_neg rfl rfl rfl ?_; intro r hr0; have hr := hr0 _ (by first | with_reducible assumption | exact rfl); clear hr0) | (with_reducible refine at_list ?_; refine wpList_fop_g rfl rfl rfl rfl rfl ?_; intro r n hr0; have hr := hr0 _ _ (by first | with_reducible assumption | exact rfl) (by first | with_reducible assumption | exact rfl); clear hr0) | (with_reducible refine at_list ?_; refine wpList_wide_g rfl rfl Try.underlying22 Try.underlying40 rfl ?_; intro r n hr0; have hr := hr0 _ (by first | with_reducible assumption | exact rfl); clear hr0) | (with_reducible refine at_list ?_; refine wpList_wide rfl rfl rfl Try.underlying22 Try.underlying40 ?_; intro r n hr0; have hr := hr0 _ (by first | with_reducible assumption | exact rfl); clear hr0))
  all_goals
    go_ret
    refine ⟨rfl, by (repeat (first | (with_reducible exact Below.refl _ _) | (with_reducible assumption) | (with_reducible refine below_then ?_ (by assumption)) | (with_reducible refine Below.trans ?_ (by assumption)) | (with_reducible refine below_drewN ?_ _) | (with_reducible apply Below.drew) | (with_reducible refine below_alloc ?_ _) | refine Below.setCell ?_ (by first | (simp; done) | (simp; omega)) _)), p, n, c, 0, 0, ⟨by go_simp, by go_simp, by go_simp⟩, ⟨by go_simp, by go_simp⟩, H.out.later (C := w.heap.size) (by (repeat (first | (with_reducible exact Below.refl _ _) | (with_reducible assumption) | (with_reducible refine below_then ?_ (by assumption)) | (with_reducible refine Below.trans ?_ (by assumption)) | (with_reducible refine below_drewN ?_ _) | (with_reducible apply Below.drew) | (with_reducible refine below_alloc ?_ _) | refine Below.setCell ?_ (by first | (simp; done) | (simp; omega)) _))) (Nat.le_refl _), hn, ⟨by omega, by omega⟩, by omega, by omega⟩
end Go.Proofs.Ytjeeflldbhajiaa
set_option linter.unusedSimpArgs false
set_option linter.unusedVariables false
set_option linter.unusedSectionVars false
namespace Go.Proofs.Ytjeeflldbhajiaa
open Go Go.RowKit
/-- The word is the number q. -/
def V (k : FloatKind) (x : Nat) (q : Rat) : Prop := fnt k x = true ∧ fv k x = q
theorem V.btw {k : FloatKind} {x : Nat} {q : Rat} (h : V k x q) : Btw k x q q := ⟨h.1, by rw [h.2]; exact Rat.le_refl, by rw [h.2]; exact Rat.le_refl⟩
theorem V.op (op : BinOp) (hop : arithOp op = true) {k : FloatKind} {x y : Nat} {a b : Rat} (hx : V k x a) (hy : V k y b) (h0 : op = .quo → b ≠ 0) (hr : Rep k (ex op a b)) : V k (fop op k x y) (ex op a b) := by
  have h := fop_btw op hop k hx.1 hy.1 (by rw [hy.2]; exact h0) hr hr (by rw [hx.2, hy.2]; exact Rat.le_refl) (by rw [hx.2, hy.2]; exact Rat.le_refl)
  exact ⟨h.1, Rat.le_antisymm h.2.2 h.2.1⟩
theorem V.eq {k : FloatKind} {x : Nat} {a b : Rat} (h : V k x a) (e : a = b) : V k x b := e ▸ h
theorem V.int (k : FloatKind) (n : Int) (h : n.natAbs < 2 ^ (digK k + 1)) : V k (floatOfInt k n) n := ofInt_val k n h
theorem V.cn {k : FloatKind} {x : Nat} {q : Rat} (h : V k x q) : V k (Go.Proofs.Ytjeeflldbhajiaa.cn k x) q := by rw [fnt_cn h.1]; exact h
theorem tp_n1 : tp (-1) * 2 = 1 := by have := tp_add (-1) 1; rw [tp_one] at this; rw [← this]; exact tp_zero
theorem tp_n2 : tp (-2) * 4 = 1 := by
  have h := tp_n1
  have e : tp (-2) = tp (-1) * tp (-1) := by rw [← tp_add]; rfl
  rw [e]; grind
theorem tp_n3 : tp (-3) * 8 = 1 := by
  have e : tp (-3) = tp (-2) * tp (-1) := by rw [← tp_add]; rfl
  have h := tp_n1
  have h2 := tp_n2
  rw [e]; grind
/-- A whole number of units of a power of two. -/
theorem rep_at {k : FloatKind} (z q : Int) (h : z.natAbs < 2 ^ (digK k + 1)) (h1 : lowK k ≤ q) (h2 : q + digK k + 1 < topK k) {c : Rat} (hc : c = z * tp q) : Rep k c := hc ▸ Rep.mul_tp z q h h1 h2
theorem rep_half {n : Int} (h : n.natAbs < 16777216) : Rep .f32 ((n : Rat) / 2) := rep_at (k := .f32) n (-1) h (by decide) (by decide) (by have := tp_n1; grind)
theorem rep_quarter {n : Int} (h : n.natAbs < 16777216) : Rep .f32 ((n : Rat) / 4) := rep_at (k := .f32) n (-2) h (by decide) (by decide) (by have := tp_n2; grind)
theorem rep_eighth {n : Int} (h : n.natAbs < 16777216) : Rep .f32 ((n : Rat) / 8) := rep_at (k := .f32) n (-3) h (by decide) (by decide) (by have := tp_n3; grind)
theorem rep_int {n : Int} (h : n.natAbs < 16777216) : Rep .f32 (n : Rat) := Rep.int n h
theorem c2 : Go.Proofs.Ytjeeflldbhajiaa.cn .f32 1073741824 = floatOfInt .f32 2 := by decide +kernel
theorem c4 : Go.Proofs.Ytjeeflldbhajiaa.cn .f32 1082130432 = floatOfInt .f32 4 := by decide +kernel
theorem c8 : Go.Proofs.Ytjeeflldbhajiaa.cn .f32 1090519040 = floatOfInt .f32 8 := by decide +kernel
theorem c0 : Go.Proofs.Ytjeeflldbhajiaa.cn .f32 0 = floatOfInt .f32 0 := by decide +kernel
theorem c1 : Go.Proofs.Ytjeeflldbhajiaa.cn .f32 1065353216 = floatOfInt .f32 1 := by decide +kernel
theorem V2 : V .f32 (Go.Proofs.Ytjeeflldbhajiaa.cn .f32 1073741824) 2 := by rw [c2]; exact (V.int .f32 2 (by decide)).eq rfl
theorem V4 : V .f32 (Go.Proofs.Ytjeeflldbhajiaa.cn .f32 1082130432) 4 := by rw [c4]; exact (V.int .f32 4 (by decide)).eq rfl
theorem V8 : V .f32 (Go.Proofs.Ytjeeflldbhajiaa.cn .f32 1090519040) 8 := by rw [c8]; exact (V.int .f32 8 (by decide)).eq rfl
theorem V1 : V .f32 (Go.Proofs.Ytjeeflldbhajiaa.cn .f32 1065353216) 1 := by rw [c1]; exact (V.int .f32 1 (by decide)).eq rfl
theorem V0 : V .f32 (Go.Proofs.Ytjeeflldbhajiaa.cn .f32 0) 0 := by rw [c0]; exact (V.int .f32 0 (by decide)).eq rfl
theorem half_val {n : Int} (h : n.natAbs < 16777216) : V .f32 (fop .quo .f32 (Go.Proofs.Ytjeeflldbhajiaa.cn .f32 (floatOfInt .f32 n)) (Go.Proofs.Ytjeeflldbhajiaa.cn .f32 1073741824)) ((n : Rat) / 2) :=
  V.op .quo rfl (V.int .f32 n h).cn V2 (fun _ => by decide) (rep_half h)
theorem quarter_val {n : Int} (h : n.natAbs < 16777216) : V .f32 (fop .quo .f32 (Go.Proofs.Ytjeeflldbhajiaa.cn .f32 (floatOfInt .f32 n)) (Go.Proofs.Ytjeeflldbhajiaa.cn .f32 1082130432)) ((n : Rat) / 4) :=
  V.op .quo rfl (V.int .f32 n h).cn V4 (fun _ => by decide) (rep_quarter h)
theorem eighth_val {n : Int} (h : n.natAbs < 16777216) : V .f32 (fop .quo .f32 (Go.Proofs.Ytjeeflldbhajiaa.cn .f32 (floatOfInt .f32 n)) (Go.Proofs.Ytjeeflldbhajiaa.cn .f32 1090519040)) ((n : Rat) / 8) :=
  V.op .quo rfl (V.int .f32 n h).cn V8 (fun _ => by decide) (rep_eighth h)
end Go.Proofs.Ytjeeflldbhajiaa
set_option linter.unusedSimpArgs false
set_option linter.unusedVariables false
set_option linter.unusedSectionVars false
namespace Go.Proofs.Ytjeeflldbhajiaa
open Go Go.RowKit
open Go.ChangeShapes Go.WideShapes Go.ChangeAt Go.RowKit Go.Joins
theorem Turn.set {B S : Nat} {a b : World} (h : Turn B S a b) {ad : Addr} (hb : a.heap.size ≤ ad.block) (v : Value) : Turn B S a (b.setCell ad v) :=
  ⟨h.os, h.tape, h.output, by rw [World.size_setCell]; exact h.size, fun k hk hr => (Below.heap_setCell _ _ _ _ (by omega)).trans (h.block k hk hr)⟩
/-- A drawn stuff. -/
def DS (s : St) : Prop := ∃ a b c d p l : Int, ((1 ≤ a ∧ a ≤ 8) ∧ (1 ≤ b ∧ b ≤ 8) ∧ (1 ≤ c ∧ c ≤ 8) ∧ (1 ≤ d ∧ d ≤ 8) ∧ (-4 ≤ p ∧ p ≤ 4) ∧ (1 ≤ l ∧ l ≤ 16)) ∧
  V .f32 (cn .f32 s.a) ((a : Rat) / 2) ∧ V .f32 (cn .f32 s.b) ((b : Rat) / 2) ∧ V .f32 (cn .f32 s.c) ((c : Rat) / 4) ∧ V .f32 (cn .f32 s.d) ((d : Rat) / 4) ∧ V .f32 (cn .f32 s.p) (p : Rat) ∧ V .f32 (cn .f32 s.l) ((l : Rat) / 2)
/-- Its words are words. -/
def DL (s : St) : Prop := s.a < 4294967296 ∧ s.b < 4294967296 ∧ s.c < 4294967296 ∧ s.d < 4294967296 ∧ s.p < 4294967296 ∧ s.l < 4294967296
theorem wf_lt {x : Nat} (h : (Lit.float .f32 x).wf = true) : x < 4294967296 := by simpa [Lit.wf] using h
theorem fop_lt (op : BinOp) (x y : Nat) : fop op .f32 x y < 4294967296 := by
  unfold fop
  cases h : floatBits op .f32 x y with
  | none => decide +kernel
  | some r => exact wf_lt (floatBits_wf h)
theorem raw_lt {x c : Nat} (h : cn .f32 x = c) (hf : fnt .f32 c = true) (hc : c < 4294967296) : x < 4294967296 := by
  cases hn : isN .f32 x with
  | true =>
    rw [cn_of_isN hn] at h
    subst h
    have : fnt .f32 (qn .f32) = false := by decide +kernel
    rw [this] at hf; cases hf
  | false =>
    rw [cn_of_not hn] at h
    rw [h]; exact hc
set_option maxHeartbeats 4000000 in
theorem l03DrawOk_any (sb K : Nat) (w : World) (h : SrcAt w sb K) (hK : K ≤ 800000) : Calls Try.prog 97 #[.pointer (some ⟨sb, 0, none⟩)] w (fun e w' => ∃ s : St, e = .returned (.agg #[.float .f32 s.a, .float .f32 s.b, .float .f32 s.c, .float .f32 s.d, .float .f32 s.p, .float .f32 s.l]) ∧ DS s ∧ DL s ∧ Turn sb (sb + 1) w w' ∧ SrcAt w' sb (K + 12)) := by
  have HS := Lib.hid h
  have hlt := h.lt
  have HG : Hid (Turn sb (sb + 1) w w) := Turn.refl _ _ _
  have HPK := Lib.hid (fun (K : Nat) (n : Int) w h hK hn => pick_any sb K n w h hK hn)
  clear h
  have hz0 : True := trivial
  go_enter Try.func97, Try.ntmps97
  go_wp2_with (first | (with_reducible refine at_list ?_; refine wpList_fop rfl rfl rfl rfl rfl ?_; intro r n hr0; have hr := hr0 _ _ (by first | with_reducible assumption | exact rfl) (by first | with_reducible assumption | exact rfl); clear hr0) | (with_reducible refine at_list ?_; refine wpList_neg rfl rfl rfl ?_; intro r hr0; have hr := hr0 _ (by first | with_reducible assumption | exact rfl); clear hr0) | (with_reducible refine at_list ?_; refine wpList_fop_g rfl rfl rfl rfl rfl ?_; intro r n hr0; have hr := hr0 _ _ (by first | with_reducible assumption | exact rfl) (by first | with_reducible assumption | exact rfl); clear hr0) | (with_reducible refine at_list ?_; refine wpList_wide_g rfl rfl Try.underlying22 Try.underlying40 rfl ?_; intro r n hr0; have hr := hr0 _ (by first | with_reducible assumption | exact rfl); clear hr0) | (with_reducible refine at_list ?_; refine wpList_wide rfl rfl rfl Try.underlying22 Try.underlying40 ?_; intro r n hr0; have hr := hr0 _ (by first | with_reducible assumption | exact rfl); clear hr0) | (go_at_call 114; refine stop_here ?_))
  unfold Stop
  refine (HPK.out _ _ _ (HS.out.later (B := sb + 1) (by (repeat (first | (with_reducible exact Below.refl _ _) | (with_reducible refine below_drewN ?_ _) | (with_reducible refine Below.alloc ?_ (by first | omega | (simp only [World.size_alloc, World.size_setCell, World.size_drew, size_drewN']; omega)) _) | (with_reducible refine Below.setCell ?_ (by first | omega | (simp only [World.size_alloc, World.size_setCell, World.size_drew, size_drewN']; omega)) _)))) (Nat.lt_succ_self _)) (by omega) (by omega)).mono ?_; rintro e w' ⟨i1, rfl, ⟨hi11, hi12⟩, hg, hgs, hs⟩; have HG := Lib.hid (Turn.trans (show Turn sb (sb + 1) w _ by (repeat (first | (with_reducible exact HG.out) | (with_reducible exact Turn.refl _ _ _) | (with_reducible refine Turn.draws ?_ _) | (with_reducible refine Turn.alloc ?_ _) | (with_reducible refine Turn.set ?_ (by first | omega | (simp only [World.size_alloc, World.size_setCell, World.size_drew, size_drewN']; omega)) _)))) hg); have HS := Lib.hid hs; obtain ⟨hT, hk⟩ := turn_track hg (by (repeat (with_reducible first | assumption | apply Trk.alloc | apply Trk.setCell | apply Trk.drewN | apply Trk.drew | exact Trk.nil _))) (by first | (simp only [List.forall_mem_cons, List.not_mem_nil, false_implies, implies_true, and_true, World.size_alloc, World.size_setCell, World.size_drew, size_drewN']; done) | (simp only [List.forall_mem_cons, List.not_mem_nil, false_implies, implies_true, and_true, World.size_alloc, World.size_setCell, World.size_drew, size_drewN']; omega)); simp only [SameOn, World.size_alloc, World.size_setCell, World.size_drew, size_drewN', and_true] at hk; (try simp only [World.size_alloc, World.size_setCell, World.size_drew, size_drewN'] at hgs); (try simp only [hz0, Nat.add_assoc, Nat.reduceAdd] at hgs); (try simp only [hz0, Nat.add_assoc, Nat.reduceAdd] at hk); (try simp only [hz0, Nat.add_assoc, Nat.reduceAdd] at hT); have hz0 := hgs; clear hg hs hgs
  go_wp2_with (first | (with_reducible refine at_list ?_; refine wpList_fop rfl rfl rfl rfl rfl ?_; intro r n hr0; have hr := hr0 _ _ (by first | with_reducible assumption | exact rfl) (by first | with_reducible assumption | exact rfl); clear hr0) | (with_reducible refine at_list ?_; refine wpList_neg rfl rfl rfl ?_; intro r hr0; have hr := hr0 _ (by first | with_reducible assumption | exact rfl); clear hr0) | (with_reducible refine at_list ?_; refine wpList_fop_g rfl rfl rfl rfl rfl ?_; intro r n hr0; have hr := hr0 _ _ (by first | with_reducible assumption | exact rfl) (by first | with_reducible assumption | exact rfl); clear hr0) | (with_reducible refine at_list ?_; refine wpList_wide_g rfl rfl Try.underlying22 Try.underlying40 rfl ?_; intro r n hr0; have hr := hr0 _ (by first | with_reducible assumption | exact rfl); clear hr0) | (with_reducible refine at_list ?_; refine wpList_wide rfl rfl rfl Try.underlying22 Try.underlying40 ?_; intro r n hr0; have hr := hr0 _ (by first | with_reducible assumption | exact rfl); clear hr0) | (go_at_call 114; refine stop_here ?_))
  obtain ⟨ra, rfl⟩ : ∃ x, x = r := ⟨r, rfl⟩
  have hra := hr
  clear hr
  unfold Stop
  refine (HPK.out _ _ _ (HS.out.later (B := sb + 1) (by (repeat (first | (with_reducible exact Below.refl _ _) | (with_reducible refine below_drewN ?_ _) | (with_reducible refine Below.alloc ?_ (by first | omega | (simp only [World.size_alloc, World.size_setCell, World.size_drew, size_drewN']; omega)) _) | (with_reducible refine Below.setCell ?_ (by first | omega | (simp only [World.size_alloc, World.size_setCell, World.size_drew, size_drewN']; omega)) _)))) (Nat.lt_succ_self _)) (by omega) (by omega)).mono ?_; rintro e w' ⟨i2, rfl, ⟨hi21, hi22⟩, hg, hgs, hs⟩; have HG := Lib.hid (Turn.trans (show Turn sb (sb + 1) w _ by (repeat (first | (with_reducible exact HG.out) | (with_reducible exact Turn.refl _ _ _) | (with_reducible refine Turn.draws ?_ _) | (with_reducible refine Turn.alloc ?_ _) | (with_reducible refine Turn.set ?_ (by first | omega | (simp only [World.size_alloc, World.size_setCell, World.size_drew, size_drewN']; omega)) _)))) hg); have HS := Lib.hid hs; obtain ⟨hT, hk⟩ := turn_track hg (by (repeat (with_reducible first | assumption | apply Trk.alloc | apply Trk.setCell | apply Trk.drewN | apply Trk.drew | exact Trk.nil _))) (by first | (simp only [List.forall_mem_cons, List.not_mem_nil, false_implies, implies_true, and_true, World.size_alloc, World.size_setCell, World.size_drew, size_drewN']; done) | (simp only [List.forall_mem_cons, List.not_mem_nil, false_implies, implies_true, and_true, World.size_alloc, World.size_setCell, World.size_drew, size_drewN']; omega)); simp only [SameOn, World.size_alloc, World.size_setCell, World.size_drew, size_drewN', and_true] at hk; (try simp only [World.size_alloc, World.size_setCell, World.size_drew, size_drewN'] at hgs); (try simp only [hz0, Nat.add_assoc, Nat.reduceAdd] at hgs); (try simp only [hz0, Nat.add_assoc, Nat.reduceAdd] at hk); (try simp only [hz0, Nat.add_assoc, Nat.reduceAdd] at hT); have hz0 := hgs; clear hg hs hgs
  go_wp2_with (first | (with_reducible refine at_list ?_; refine wpList_fop rfl rfl rfl rfl rfl ?_; intro r n hr0; have hr := hr0 _ _ (by first | with_reducible assumption | exact rfl) (by first | with_reducible assumption | exact rfl); clear hr0) | (with_reducible refine at_list ?_; refine wpList_neg rfl rfl rfl ?_; intro r hr0; have hr := hr0 _ (by first | with_reducible assumption | exact rfl); clear hr0) | (with_reducible refine at_list ?_; refine wpList_fop_g rfl rfl rfl rfl rfl ?_; intro r n hr0; have hr := hr0 _ _ (by first | with_reducible assumption | exact rfl) (by first | with_reducible assumption | exact rfl); clear hr0) | (with_reducible refine at_list ?_; refine wpList_wide_g rfl rfl Try.underlying22 Try.underlying40 rfl ?_; intro r n hr0; have hr := hr0 _ (by first | with_reducible assumption | exact rfl); clear hr0) | (with_reducible refine at_list ?_; refine wpList_wide rfl rfl rfl Try.underlying22 Try.underlying40 ?_; intro r n hr0; have hr := hr0 _ (by first | with_reducible assumption | exact rfl); clear hr0) | (go_at_call 114; refine stop_here ?_))
  obtain ⟨rb, rfl⟩ : ∃ x, x = r := ⟨r, rfl⟩
  have hrb := hr
  clear hr
  unfold Stop
  refine (HPK.out _ _ _ (HS.out.later (B := sb + 1) (by (repeat (first | (with_reducible exact Below.refl _ _) | (with_reducible refine below_drewN ?_ _) | (with_reducible refine Below.alloc ?_ (by first | omega | (simp only [World.size_alloc, World.size_setCell, World.size_drew, size_drewN']; omega)) _) | (with_reducible refine Below.setCell ?_ (by first | omega | (simp only [World.size_alloc, World.size_setCell, World.size_drew, size_drewN']; omega)) _)))) (Nat.lt_succ_self _)) (by omega) (by omega)).mono ?_; rintro e w' ⟨i3, rfl, ⟨hi31, hi32⟩, hg, hgs, hs⟩; have HG := Lib.hid (Turn.trans (show Turn sb (sb + 1) w _ by (repeat (first | (with_reducible exact HG.out) | (with_reducible exact Turn.refl _ _ _) | (with_reducible refine Turn.draws ?_ _) | (with_reducible refine Turn.alloc ?_ _) | (with_reducible refine Turn.set ?_ (by first | omega | (simp only [World.size_alloc, World.size_setCell, World.size_drew, size_drewN']; omega)) _)))) hg); have HS := Lib.hid hs; obtain ⟨hT, hk⟩ := turn_track hg (by (repeat (with_reducible first | assumption | apply Trk.alloc | apply Trk.setCell | apply Trk.drewN | apply Trk.drew | exact Trk.nil _))) (by first | (simp only [List.forall_mem_cons, List.not_mem_nil, false_implies, implies_true, and_true, World.size_alloc, World.size_setCell, World.size_drew, size_drewN']; done) | (simp only [List.forall_mem_cons, List.not_mem_nil, false_implies, implies_true, and_true, World.size_alloc, World.size_setCell, World.size_drew, size_drewN']; omega)); simp only [SameOn, World.size_alloc, World.size_setCell, World.size_drew, size_drewN', and_true] at hk; (try simp only [World.size_alloc, World.size_setCell, World.size_drew, size_drewN'] at hgs); (try simp only [hz0, Nat.add_assoc, Nat.reduceAdd] at hgs); (try simp only [hz0, Nat.add_assoc, Nat.reduceAdd] at hk); (try simp only [hz0, Nat.add_assoc, Nat.reduceAdd] at hT); have hz0 := hgs; clear hg hs hgs
  go_wp2_with (first | (with_reducible refine at_list ?_; refine wpList_fop rfl rfl rfl rfl rfl ?_; intro r n hr0; have hr := hr0 _ _ (by first | with_reducible assumption | exact rfl) (by first | with_reducible assumption | exact rfl); clear hr0) | (with_reducible refine at_list ?_; refine wpList_neg rfl rfl rfl ?_; intro r hr0; have hr := hr0 _ (by first | with_reducible assumption | exact rfl); clear hr0) | (with_reducible refine at_list ?_; refine wpList_fop_g rfl rfl rfl rfl rfl ?_; intro r n hr0; have hr := hr0 _ _ (by first | with_reducible assumption | exact rfl) (by first | with_reducible assumption | exact rfl); clear hr0) | (with_reducible refine at_list ?_; refine wpList_wide_g rfl rfl Try.underlying22 Try.underlying40 rfl ?_; intro r n hr0; have hr := hr0 _ (by first | with_reducible assumption | exact rfl); clear hr0) | (with_reducible refine at_list ?_; refine wpList_wide rfl rfl rfl Try.underlying22 Try.underlying40 ?_; intro r n hr0; have hr := hr0 _ (by first | with_reducible assumption | exact rfl); clear hr0) | (go_at_call 114; refine stop_here ?_))
  obtain ⟨rc, rfl⟩ : ∃ x, x = r := ⟨r, rfl⟩
  have hrc := hr
  clear hr
  unfold Stop
  refine (HPK.out _ _ _ (HS.out.later (B := sb + 1) (by (repeat (first | (with_reducible exact Below.refl _ _) | (with_reducible refine below_drewN ?_ _) | (with_reducible refine Below.alloc ?_ (by first | omega | (simp only [World.size_alloc, World.size_setCell, World.size_drew, size_drewN']; omega)) _) | (with_reducible refine Below.setCell ?_ (by first | omega | (simp only [World.size_alloc, World.size_setCell, World.size_drew, size_drewN']; omega)) _)))) (Nat.lt_succ_self _)) (by omega) (by omega)).mono ?_; rintro e w' ⟨i4, rfl, ⟨hi41, hi42⟩, hg, hgs, hs⟩; have HG := Lib.hid (Turn.trans (show Turn sb (sb + 1) w _ by (repeat (first | (with_reducible exact HG.out) | (with_reducible exact Turn.refl _ _ _) | (with_reducible refine Turn.draws ?_ _) | (with_reducible refine Turn.alloc ?_ _) | (with_reducible refine Turn.set ?_ (by first | omega | (simp only [World.size_alloc, World.size_setCell, World.size_drew, size_drewN']; omega)) _)))) hg); have HS := Lib.hid hs; obtain ⟨hT, hk⟩ := turn_track hg (by (repeat (with_reducible first | assumption | apply Trk.alloc | apply Trk.setCell | apply Trk.drewN | apply Trk.drew | exact Trk.nil _))) (by first | (simp only [List.forall_mem_cons, List.not_mem_nil, false_implies, implies_true, and_true, World.size_alloc, World.size_setCell, World.size_drew, size_drewN']; done) | (simp only [List.forall_mem_cons, List.not_mem_nil, false_implies, implies_true, and_true, World.size_alloc, World.size_setCell, World.size_drew, size_drewN']; omega)); simp only [SameOn, World.size_alloc, World.size_setCell, World.size_drew, size_drewN', and_true] at hk; (try simp only [World.size_alloc, World.size_setCell, World.size_drew, size_drewN'] at hgs); (try simp only [hz0, Nat.add_assoc, Nat.reduceAdd] at hgs); (try simp only [hz0, Nat.add_assoc, Nat.reduceAdd] at hk); (try simp only [hz0, Nat.add_assoc, Nat.reduceAdd] at hT); have hz0 := hgs; clear hg hs hgs
  go_wp2_with (first | (with_reducible refine at_list ?_; refine wpList_fop rfl rfl rfl rfl rfl ?_; intro r n hr0; have hr := hr0 _ _ (by first | with_reducible assumption | exact rfl) (by first | with_reducible assumption | exact rfl); clear hr0) | (with_reducible refine at_list ?_; refine wpList_neg rfl rfl rfl ?_; intro r hr0; have hr := hr0 _ (by first | with_reducible assumption | exact rfl); clear hr0) | (with_reducible refine at_list ?_; refine wpList_fop_g rfl rfl rfl rfl rfl ?_; intro r n hr0; have hr := hr0 _ _ (by first | with_reducible assumption | exact rfl) (by first | with_reducible assumption | exact rfl); clear hr0) | (with_reducible refine at_list ?_; refine wpList_wide_g rfl rfl Try.underlying22 Try.underlying40 rfl ?_; intro r n hr0; have hr := hr0 _ (by first | with_reducible assumption | exact rfl); clear hr0) | (with_reducible refine at_list ?_; refine wpList_wide rfl rfl rfl Try.underlying22 Try.underlying40 ?_; intro r n hr0; have hr := hr0 _ (by first | with_reducible assumption | exact rfl); clear hr0) | (go_at_call 114; refine stop_here ?_))
  obtain ⟨rd, rfl⟩ : ∃ x, x = r := ⟨r, rfl⟩
  have hrd := hr
  clear hr
  unfold Stop
  refine (HPK.out _ _ _ (HS.out.later (B := sb + 1) (by (repeat (first | (with_reducible exact Below.refl _ _) | (with_reducible refine below_drewN ?_ _) | (with_reducible refine Below.alloc ?_ (by first | omega | (simp only [World.size_alloc, World.size_setCell, World.size_drew, size_drewN']; omega)) _) | (with_reducible refine Below.setCell ?_ (by first | omega | (simp only [World.size_alloc, World.size_setCell, World.size_drew, size_drewN']; omega)) _)))) (Nat.lt_succ_self _)) (by omega) (by omega)).mono ?_; rintro e w' ⟨i5, rfl, ⟨hi51, hi52⟩, hg, hgs, hs⟩; have HG := Lib.hid (Turn.trans (show Turn sb (sb + 1) w _ by (repeat (first | (with_reducible exact HG.out) | (with_reducible exact Turn.refl _ _ _) | (with_reducible refine Turn.draws ?_ _) | (with_reducible refine Turn.alloc ?_ _) | (with_reducible refine Turn.set ?_ (by first | omega | (simp only [World.size_alloc, World.size_setCell, World.size_drew, size_drewN']; omega)) _)))) hg); have HS := Lib.hid hs; obtain ⟨hT, hk⟩ := turn_track hg (by (repeat (with_reducible first | assumption | apply Trk.alloc | apply Trk.setCell | apply Trk.drewN | apply Trk.drew | exact Trk.nil _))) (by first | (simp only [List.forall_mem_cons, List.not_mem_nil, false_implies, implies_true, and_true, World.size_alloc, World.size_setCell, World.size_drew, size_drewN']; done) | (simp only [List.forall_mem_cons, List.not_mem_nil, false_implies, implies_true, and_true, World.size_alloc, World.size_setCell, World.size_drew, size_drewN']; omega)); simp only [SameOn, World.size_alloc, World.size_setCell, World.size_drew, size_drewN', and_true] at hk; (try simp only [World.size_alloc, World.size_setCell, World.size_drew, size_drewN'] at hgs); (try simp only [hz0, Nat.add_assoc, Nat.reduceAdd] at hgs); (try simp only [hz0, Nat.add_assoc, Nat.reduceAdd] at hk); (try simp only [hz0, Nat.add_assoc, Nat.reduceAdd] at hT); have hz0 := hgs; clear hg hs hgs
  go_wp2_with (first | (with_reducible refine at_list ?_; refine wpList_fop rfl rfl rfl rfl rfl ?_; intro r n hr0; have hr := hr0 _ _ (by first | with_reducible assumption | exact rfl) (by first | with_reducible assumption | exact rfl); clear hr0) | (with_reducible refine at_list ?_; refine wpList_neg rfl rfl rfl ?_; intro r hr0; have hr := hr0 _ (by first | with_reducible assumption | exact rfl); clear hr0) | (with_reducible refine at_list ?_; refine wpList_fop_g rfl rfl rfl rfl rfl ?_; intro r n hr0; have hr := hr0 _ _ (by first | with_reducible assumption | exact rfl) (by first | with_reducible assumption | exact rfl); clear hr0) | (with_reducible refine at_list ?_; refine wpList_wide_g rfl rfl Try.underlying22 Try.underlying40 rfl ?_; intro r n hr0; have hr := hr0 _ (by first | with_reducible assumption | exact rfl); clear hr0) | (with_reducible refine at_list ?_; refine wpList_wide rfl rfl rfl Try.underlying22 Try.underlying40 ?_; intro r n hr0; have hr := hr0 _ (by first | with_reducible assumption | exact rfl); clear hr0) | (go_at_call 114; refine stop_here ?_))
  unfold Stop
  refine (HPK.out _ _ _ (HS.out.later (B := sb + 1) (by (repeat (first | (with_reducible exact Below.refl _ _) | (with_reducible refine below_drewN ?_ _) | (with_reducible refine Below.alloc ?_ (by first | omega | (simp only [World.size_alloc, World.size_setCell, World.size_drew, size_drewN']; omega)) _) | (with_reducible refine Below.setCell ?_ (by first | omega | (simp only [World.size_alloc, World.size_setCell, World.size_drew, size_drewN']; omega)) _)))) (Nat.lt_succ_self _)) (by omega) (by omega)).mono ?_; rintro e w' ⟨i6, rfl, ⟨hi61, hi62⟩, hg, hgs, hs⟩; have HG := Lib.hid (Turn.trans (show Turn sb (sb + 1) w _ by (repeat (first | (with_reducible exact HG.out) | (with_reducible exact Turn.refl _ _ _) | (with_reducible refine Turn.draws ?_ _) | (with_reducible refine Turn.alloc ?_ _) | (with_reducible refine Turn.set ?_ (by first | omega | (simp only [World.size_alloc, World.size_setCell, World.size_drew, size_drewN']; omega)) _)))) hg); have HS := Lib.hid hs; obtain ⟨hT, hk⟩ := turn_track hg (by (repeat (with_reducible first | assumption | apply Trk.alloc | apply Trk.setCell | apply Trk.drewN | apply Trk.drew | exact Trk.nil _))) (by first | (simp only [List.forall_mem_cons, List.not_mem_nil, false_implies, implies_true, and_true, World.size_alloc, World.size_setCell, World.size_drew, size_drewN']; done) | (simp only [List.forall_mem_cons, List.not_mem_nil, false_implies, implies_true, and_true, World.size_alloc, World.size_setCell, World.size_drew, size_drewN']; omega)); simp only [SameOn, World.size_alloc, World.size_setCell, World.size_drew, size_drewN', and_true] at hk; (try simp only [World.size_alloc, World.size_setCell, World.size_drew, size_drewN'] at hgs); (try simp only [hz0, Nat.add_assoc, Nat.reduceAdd] at hgs); (try simp only [hz0, Nat.add_assoc, Nat.reduceAdd] at hk); (try simp only [hz0, Nat.add_assoc, Nat.reduceAdd] at hT); have hz0 := hgs; clear hg hs hgs
  go_wp2_with (first | (with_reducible refine at_list ?_; refine wpList_fop rfl rfl rfl rfl rfl ?_; intro r n hr0; have hr := hr0 _ _ (by first | with_reducible assumption | exact rfl) (by first | with_reducible assumption | exact rfl); clear hr0) | (with_reducible refine at_list ?_; refine wpList_neg rfl rfl rfl ?_; intro r hr0; have hr := hr0 _ (by first | with_reducible assumption | exact rfl); clear hr0) | (with_reducible refine at_list ?_; refine wpList_fop_g rfl rfl rfl rfl rfl ?_; intro r n hr0; have hr := hr0 _ _ (by first | with_reducible assumption | exact rfl) (by first | with_reducible assumption | exact rfl); clear hr0) | (with_reducible refine at_list ?_; refine wpList_wide_g rfl rfl Try.underlying22 Try.underlying40 rfl ?_; intro r n hr0; have hr := hr0 _ (by first | with_reducible assumption | exact rfl); clear hr0) | (with_reducible refine at_list ?_; refine wpList_wide rfl rfl rfl Try.underlying22 Try.underlying40 ?_; intro r n hr0; have hr := hr0 _ (by first | with_reducible assumption | exact rfl); clear hr0))
  obtain ⟨rl, rfl⟩ : ∃ x, x = r := ⟨r, rfl⟩
  have hrl := hr
  clear hr
  refine bodyPost_ret (v := .agg #[.float .f32 ra, .float .f32 rb, .float .f32 rc, .float .f32 rd, .float .f32 (floatOfInt .f32 (i5 - 4)), .float .f32 rl]) (by simp [results, Try.results97, go_sem, *]) rfl ?_
  refine ⟨⟨ra, rb, rc, rd, floatOfInt .f32 (i5 - 4), rl⟩, rfl, ⟨1 + i1, 1 + i2, 1 + i3, 1 + i4, i5 - 4, 1 + i6, by omega, ?_, ?_, ?_, ?_, (V.int .f32 (i5 - 4) (show (i5 - 4).natAbs < 16777216 by omega)).cn, ?_⟩, ⟨raw_lt hra (half_val (by omega)).1 (fop_lt _ _ _), raw_lt hrb (half_val (by omega)).1 (fop_lt _ _ _), raw_lt hrc (quarter_val (by omega)).1 (fop_lt _ _ _), raw_lt hrd (quarter_val (by omega)).1 (fop_lt _ _ _), wf_lt (floatOfInt_wf .f32 _), raw_lt hrl (half_val (by omega)).1 (fop_lt _ _ _)⟩, by (repeat (first | (with_reducible exact HG.out) | (with_reducible exact Turn.refl _ _ _) | (with_reducible refine Turn.draws ?_ _) | (with_reducible refine Turn.alloc ?_ _) | (with_reducible refine Turn.set ?_ (by first | omega | (simp only [World.size_alloc, World.size_setCell, World.size_drew, size_drewN']; omega)) _))), HS.out.later (B := sb + 1) (by (repeat (first | (with_reducible exact Below.refl _ _) | (with_reducible refine below_drewN ?_ _) | (with_reducible refine Below.alloc ?_ (by first | omega | (simp only [World.size_alloc, World.size_setCell, World.size_drew, size_drewN']; omega)) _) | (with_reducible refine Below.setCell ?_ (by first | omega | (simp only [World.size_alloc, World.size_setCell, World.size_drew, size_drewN']; omega)) _)))) (Nat.lt_succ_self _)⟩
  · show V _ (cn .f32 ra) _; rw [hra]; exact half_val (by omega)
  · show V _ (cn .f32 rb) _; rw [hrb]; exact half_val (by omega)
  · show V _ (cn .f32 rc) _; rw [hrc]; exact quarter_val (by omega)
  · show V _ (cn .f32 rd) _; rw [hrd]; exact quarter_val (by omega)
  · show V _ (cn .f32 rl) _; rw [hrl]; exact half_val (by omega)
set_option maxHeartbeats 4000000 in
theorem B10Stuff_any (p : Option Addr) (n c : Nat) (w : World) (h : BY w.heap.size w p n c) (hn : n ≤ 1048576) : Calls Try.prog 50 #[.slice p n c] w (fun e w' => ∃ s : St, e = .returned (.agg #[.float .f32 s.a, .float .f32 s.b, .float .f32 s.c, .float .f32 s.d, .float .f32 s.p, .float .f32 s.l]) ∧ DS s ∧ DL s ∧ Below w.heap.size w w') := by
  have H := Lib.hid h
  have HN := Lib.hid hn
  clear h hn
  go_enter Try.func50, Try.ntmps50
  go_wp2_with (first | (with_reducible refine at_list ?_; refine wpList_fop rfl rfl rfl rfl rfl ?_; intro r n hr0; have hr := hr0 _ _ (by first | with_reducible assumption | exact rfl) (by first | with_reducible assumption | exact rfl); clear hr0) | (with_reducible refine at_list ?_; refine wpList_neg rfl rfl rfl ?_; intro r hr0; have hr := hr0 _ (by first | with_reducible assumption | exact rfl); clear hr0) | (with_reducible refine at_list ?_; refine wpList_fop_g rfl rfl rfl rfl rfl ?_; intro r n hr0; have hr := hr0 _ _ (by first | with_reducible assumption | exact rfl) (by first | with_reducible assumption | exact rfl); clear hr0) | (with_reducible refine at_list ?_; refine wpList_wide_g rfl rfl Try.underlying22 Try.underlying40 rfl ?_; intro r n hr0; have hr := hr0 _ (by first | with_reducible assumption | exact rfl); clear hr0) | (with_reducible refine at_list ?_; refine wpList_wide rfl rfl rfl Try.underlying22 Try.underlying40 ?_; intro r n hr0; have hr := hr0 _ (by first | with_reducible assumption | exact rfl); clear hr0) | (go_at_call 94; refine (l00From_any _ _ _ _ ((H.out.later (C := w.heap.size) (by (repeat (first | (with_reducible exact Below.refl _ _) | (with_reducible assumption) | (with_reducible refine below_then ?_ (by assumption)) | (with_reducible refine Below.trans ?_ (by assumption)) | (with_reducible refine below_drewN ?_ _) | (with_reducible apply Below.drew) | (with_reducible refine below_alloc ?_ _) | refine Below.setCell ?_ (by first | (simp; done) | (simp; omega)) _))) (Nat.le_refl _)).mono (by first | omega | (simp; done) | (simp; omega))) HN.out).mono ?_; rintro e w' ⟨rfl, hb, hs⟩; (try simp only [World.size_alloc] at hs); have HS := Lib.hid hs; clear hs; obtain ⟨hT, hk⟩ := bv_next hb (by (repeat (with_reducible first | assumption | apply Trk.alloc | apply Trk.setCell | apply Trk.drewN | apply Trk.drew | exact Trk.nil _))); simp only [SameOn, World.size_alloc, World.size_setCell, World.size_drew, size_drewN', and_true] at hk; have hsz := Below.size hb; (try simp only [World.size_alloc, World.size_setCell, World.size_drew, size_drewN'] at hsz)) | (go_at_call 97; refine stop_here ?_))
  unfold Stop
  refine (l03DrawOk_any (w.heap.size + 1) 0 _ HS.out (by omega)).mono ?_
  rintro e w2 ⟨s, rfl, hd, hdl, hg, hs⟩
  have hB : Below w.heap.size w w2 := (show Below w.heap.size w w' by (repeat (first | (with_reducible exact Below.refl _ _) | (with_reducible assumption) | (with_reducible refine below_then ?_ (by assumption)) | (with_reducible refine Below.trans ?_ (by assumption)) | (with_reducible refine below_drewN ?_ _) | (with_reducible apply Below.drew) | (with_reducible refine below_alloc ?_ _) | refine Below.setCell ?_ (by first | (simp; done) | (simp; omega)) _))).trans ⟨hg.os, hg.tape, hg.output, hg.size, fun k hk' => hg.block k (by omega) (.inl (by omega))⟩
  obtain ⟨hT2, hk2⟩ := turn_track hg (L := [w.heap.size]) (fun x hx => by simp at hx; omega) (by simp)
  simp only [SameOn, and_true] at hk2
  have hz2 := hg.size
  clear hg hs hb hT hT2
  go_wp2_with (first | (with_reducible refine at_list ?_; refine wpList_fop rfl rfl rfl rfl rfl ?_; intro r n hr0; have hr := hr0 _ _ (by first | with_reducible assumption | exact rfl) (by first | with_reducible assumption | exact rfl); clear hr0) | (with_reducible refine at_list ?_; refine wpList_neg rfl rfl rfl ?_; intro r hr0; have hr := hr0 _ (by first | with_reducible assumption | exact rfl); clear hr0) | (with_reducible refine at_list ?_; refine wpList_fop_g rfl rfl rfl rfl rfl ?_; intro r n hr0; have hr := hr0 _ _ (by first | with_reducible assumption | exact rfl) (by first | with_reducible assumption | exact rfl); clear hr0) | (with_reducible refine at_list ?_; refine wpList_wide_g rfl rfl Try.underlying22 Try.underlying40 rfl ?_; intro r n hr0; have hr := hr0 _ (by first | with_reducible assumption | exact rfl); clear hr0) | (with_reducible refine at_list ?_; refine wpList_wide rfl rfl rfl Try.underlying22 Try.underlying40 ?_; intro r n hr0; have hr := hr0 _ (by first | with_reducible assumption | exact rfl); clear hr0))
  refine bodyPost_ret (v := .agg #[.float .f32 s.a, .float .f32 s.b, .float .f32 s.c, .float .f32 s.d, .float .f32 s.p, .float .f32 s.l]) (by simp [results, Try.results50, go_sem, *]) rfl ?_
  exact ⟨s, rfl, hd, hdl, by (repeat (first | (with_reducible exact Below.refl _ _) | (with_reducible assumption) | (with_reducible refine below_then ?_ (by assumption)) | (with_reducible refine Below.trans ?_ (by assumption)) | (with_reducible refine below_drewN ?_ _) | (with_reducible apply Below.drew) | (with_reducible refine below_alloc ?_ _) | refine Below.setCell ?_ (by first | (simp; done) | (simp; omega)) _))⟩
end Go.Proofs.Ytjeeflldbhajiaa
set_option linter.unusedSimpArgs false
set_option linter.unusedVariables false
set_option linter.unusedSectionVars false
namespace Go.Proofs.Ytjeeflldbhajiaa
open Go Go.RowKit
theorem rnd_err {f : Ieee.Format} {v r : Rat} {Q : Int} (h : Rnd f v r) (h1 : v ≤ tp Q) (h2 : -v ≤ tp Q) (hQ : f.leastPlace ≤ Q - f.fractionBits) : r - v ≤ tp (Q - f.fractionBits - 1) ∧ v - r ≤ tp (Q - f.fractionBits - 1) := by
  obtain ⟨last, k, hl, hr, e1, e2, h3⟩ := h
  have hle : tp last ≤ tp (Q - f.fractionBits) := by
    rcases h3 with h3 | h3 | h3
    · exact tp_le (by omega)
    · exact tp_le (by have := le_of_tp (Rat.le_trans h3 h1); omega)
    · exact tp_le (by have := le_of_tp (Rat.le_trans h3 h2); omega)
  have e : tp (Q - f.fractionBits) = 2 * tp (Q - f.fractionBits - 1) := by
    have := tp_succ (Q - f.fractionBits - 1)
    rw [show Q - (f.fractionBits : Int) - 1 + 1 = Q - f.fractionBits by omega] at this
    exact this
  constructor <;> grind
/-- A word near a number. -/
def Nr (x : Nat) (v e : Rat) : Prop := fnt .f32 x = true ∧ fv .f32 x - v ≤ e ∧ v - fv .f32 x ≤ e
theorem tp7 : tp 7 = 128 := (tp_nat 7).trans rfl
theorem tp_n17 : tp (-17) * 131072 = 1 := by
  have h : tp (-17) * tp 17 = 1 := by rw [← tp_add]; exact tp_zero
  rwa [show tp 17 = 131072 from (tp_nat 17).trans rfl] at h
/-- One operation on numbers that are not great. -/
theorem fop_nr (op : BinOp) (hop : arithOp op = true) {x y : Nat} (hx : fnt .f32 x = true) (hy : fnt .f32 y = true) (h0 : op = .quo → fv .f32 y ≠ 0) (h1 : ex op (fv .f32 x) (fv .f32 y) ≤ 128) (h2 : -ex op (fv .f32 x) (fv .f32 y) ≤ 128) :
    Nr (fop op .f32 x y) (ex op (fv .f32 x) (fv .f32 y)) (tp (-17)) := by
  obtain ⟨g1, g2⟩ := fop_rnd op hop .f32 hx hy h0 7 (by decide) (by rw [tp7]; exact h1) (by rw [tp7]; exact h2)
  have := rnd_err (Q := 7) g2 (by rw [tp7]; exact h1) (by rw [tp7]; exact h2) (by decide)
  exact ⟨g1, this.1, this.2⟩
theorem V.fin {x : Nat} {q : Rat} (h : V .f32 x q) : fin .f32 x = true := by rw [fin_num]; exact h.1
theorem abv_of {x : Nat} (h : fnt .f32 x = true) (h0 : 0 < fv .f32 x) : abv x = true := by
  have e : fgt .f32 x (cn .f32 0) = true := by
    rw [fgtv h V0.1, V0.2]
    exact decide_eq_true h0
  have hf : fin .f32 x = true := by rw [fin_num]; exact h
  have := abv_neg x
  rw [hf, flev h V0.1, V0.2] at this
  simp only [Bool.not_true, Bool.false_or] at this
  have h2 : decide (fv .f32 x ≤ 0) = false := decide_eq_false (by grind)
  rw [h2] at this
  simpa using this.symm
/-- What is known of a drawn stuff's canonical words. -/
structure SV (s : St) (a b c d p l : Int) : Prop where
  bd : (1 ≤ a ∧ a ≤ 8) ∧ (1 ≤ b ∧ b ≤ 8) ∧ (1 ≤ c ∧ c ≤ 8) ∧ (1 ≤ d ∧ d ≤ 8) ∧ (-4 ≤ p ∧ p ≤ 4) ∧ (1 ≤ l ∧ l ≤ 16)
  A : V .f32 s.k.a ((a : Rat) / 2)
  B : V .f32 s.k.b ((b : Rat) / 2)
  C : V .f32 s.k.c ((c : Rat) / 4)
  D : V .f32 s.k.d ((d : Rat) / 4)
  P : V .f32 s.k.p (p : Rat)
  L : V .f32 s.k.l ((l : Rat) / 2)
theorem DS.sv {s : St} (h : DS s) : ∃ a b c d p l, SV s a b c d p l := by
  obtain ⟨a, b, c, d, p, l, h0, h1, h2, h3, h4, h5, h6⟩ := h
  exact ⟨a, b, c, d, p, l, h0, h1, h2, h3, h4, h5, h6⟩
theorem icast_le {a b : Int} (h : a ≤ b) : (a : Rat) ≤ (b : Rat) := by exact_mod_cast h
theorem icast_lt {a b : Int} (h : a < b) : (a : Rat) < (b : Rat) := by exact_mod_cast h
theorem SV.ok {s : St} {a b c d p l : Int} (h : SV s a b c d p l) : s.ok = true := by
  obtain ⟨⟨h1, _⟩, ⟨h2, _⟩, ⟨h3, _⟩, ⟨h4, _⟩, _, ⟨h6, _⟩⟩ := h.bd
  have pos : ∀ {n : Int}, 1 ≤ n → (1 : Rat) ≤ (n : Rat) := fun {n} h => icast_le h
  have q1 := pos h1; have q2 := pos h2; have q3 := pos h3; have q4 := pos h4; have q6 := pos h6
  have e1 : abv (cn .f32 s.a) = true := abv_of h.A.1 (by rw [show fv .f32 (cn .f32 s.a) = _ from h.A.2]; grind)
  have e2 : abv (cn .f32 s.b) = true := abv_of h.B.1 (by rw [show fv .f32 (cn .f32 s.b) = _ from h.B.2]; grind)
  have e3 : abv (cn .f32 s.c) = true := abv_of h.C.1 (by rw [show fv .f32 (cn .f32 s.c) = _ from h.C.2]; grind)
  have e4 : abv (cn .f32 s.d) = true := abv_of h.D.1 (by rw [show fv .f32 (cn .f32 s.d) = _ from h.D.2]; grind)
  have e5 : fin .f32 (cn .f32 s.p) = true := h.P.fin
  have e6 : abv (cn .f32 s.l) = true := abv_of h.L.1 (by rw [show fv .f32 (cn .f32 s.l) = _ from h.L.2]; grind)
  unfold St.ok
  rw [e1, e2, e3, e4, e5, e6]
  rfl
section
variable {s : St} {a b c d p l k : Int} {H : Nat}
theorem rep16 (z : Int) (h : z.natAbs < 16777216) : Rep .f32 ((z : Rat) / 16) := rep_at (k := .f32) z (-4) h (by decide) (by decide) (by have e : tp (-4) = tp (-2) * tp (-2) := (by rw [← tp_add]; rfl); have := tp_n2; rw [e]; grind)
end
end Go.Proofs.Ytjeeflldbhajiaa
set_option linter.unusedSimpArgs false
set_option linter.unusedVariables false
set_option linter.unusedSectionVars false
namespace Go.Proofs.Ytjeeflldbhajiaa
open Go Go.RowKit
set_option maxHeartbeats 1000000 in
theorem IndexFuncC_any (g : Nat) (cap : Value) (p : Nat → Bool) (xs : List Nat) (v : Value) (w : World) (hs : FS w v xs) (hcf : ∀ x w', (callFunc g #[.float .f32 x, cap]).run Try.prog w' = .ok (.enter g #[.float .f32 x, cap]) w')
    (hg : ∀ x w', Below w.heap.size w w' → Calls Try.prog g #[.float .f32 x, cap] w' (BV w' (.bool (p x)))) :
    Calls Try.prog 110 #[v, .func (.func g) #[] #[cap]] w (BV w (.int .i64 (findI p xs))) := by
  have HG := Lib.hid hg; clear hg
  obtain ⟨q, c, rfl, hc1, hc2, HV⟩ := FS_view hs
  have HV := Lib.hid HV
  clear hs
  go_enter Try.func110, Try.ntmps110
  go_wp2
  go_loopw [8] (fun t wr => ∃ k : Nat, k ≤ xs.length ∧ t = .int .i64 k ∧ Below w.heap.size w wr ∧ Hid (∀ j, j < k → p (xs.getD j 0) = false)) (fun t _ => xs.length - (intOf t).toNat)
  case atStart => exact ⟨0, Nat.zero_le _, rfl, Below.refl _ _, fun j hj => by omega⟩
  case round =>
    obtain ⟨k, hk, rfl, hB, hp⟩ := hrel
    by_cases hlt : k < xs.length
    · obtain ⟨b, o, rfl, hcell0⟩ := HV.out k hlt
      have hcell := cell_later hB hcell0
      generalize hx : xs.getD k 0 = x at hcell hcell0
      have Hx := Lib.hid hx; clear hx hcell0 HV
      have HC := Lib.hid (HG.out x wr hB)
      rcases hb : p x
      · rw [hb] at HC
        go_wp2_with fail
        refine HC.out.mono ?_
        rintro e w' ⟨rfl, hbl⟩
        go_wp2_with fail
        go_roundw
        case rel => exact ⟨k + 1, by omega, by go_num, below_then hB hbl, fun j hj => by rcases Nat.lt_succ_iff_lt_or_eq.1 hj with h | rfl; exact hp j h; rw [Hx.out]; exact hb⟩
        case measure => simp [intOf]; omega
      · rw [hb] at HC
        go_wp2_with fail
        refine HC.out.mono ?_
        rintro e w' ⟨rfl, hbl⟩
        go_wp2_with fail
        go_ret
        exact ⟨by rw [findI_at p xs k hlt hp (by rw [Hx.out]; exact hb)]; rfl, below_then hB hbl⟩
    · go_wp2
      go_ret
      exact ⟨by rw [findI_no p xs (fun j hj => hp.out j (by omega))]; rfl, hB⟩
set_option maxHeartbeats 400000 in
theorem ContainsFuncC_any (g : Nat) (cap : Value) (p : Nat → Bool) (xs : List Nat) (v : Value) (w : World) (hs : FS w v xs) (hcf : ∀ x w', (callFunc g #[.float .f32 x, cap]).run Try.prog w' = .ok (.enter g #[.float .f32 x, cap]) w')
    (hg : ∀ x w', Below w.heap.size w w' → Calls Try.prog g #[.float .f32 x, cap] w' (BV w' (.bool (p x)))) :
    Calls Try.prog 65 #[v, .func (.func g) #[] #[cap]] w (BV w (.bool (xs.any p))) := by
  have HC := Lib.hid hcf; clear hcf
  have HG := Lib.hid hg; clear hg
  have hq := findI_ge p xs
  go_enter Try.func65, Try.ntmps65
  go_wp2_with fail
  refine (IndexFuncC_any g cap p xs v _ hs HC.out HG.out).mono ?_
  rintro e w' ⟨rfl, hb⟩
  go_wp2_with fail
  go_ret
  exact ⟨rfl, hb⟩
end Go.Proofs.Ytjeeflldbhajiaa
set_option linter.unusedSimpArgs false
set_option linter.unusedVariables false
set_option linter.unusedSectionVars false
namespace Go.Proofs.Ytjeeflldbhajiaa
open Go Go.RowKit
open Go.ChangeShapes Go.WideShapes Go.ChangeAt Go.RowKit Go.Joins
/-- A bar's cells in memory. -/
def BarAt (s : St) (p : Nat) (v : Value) (w : World) (b o : Nat) : Prop := s.at w b o ∧ w.cell? ⟨b, o + 6, none⟩ = some (.float .f32 p) ∧ w.cell? ⟨b, o + 7, none⟩ = some v
def badC (s : St) (c : Nat) : Bool := !fin .f32 c || !fin .f32 (warmC s c)
/-- Is a bar valid. -/
def barOk (s : St) (p : Nat) (xs : List Nat) : Bool := s.ok && (abv (cn .f32 p) && (decide (1 ≤ xs.length) && (decide (xs.length ≤ 48) && !xs.any fun x => badC s.k (cn .f32 x))))
set_option maxHeartbeats 1000000 in
theorem ValidBar1_any (s : St) (p : Nat) (v : Value) (x b o : Nat) (w : World) (hs : BarAt s p v w b o) : Calls Try.prog 66 #[.float .f32 x, .pointer (some ⟨b, o, none⟩)] w (BV w (.bool (badC s.k (cn .f32 x)))) := by
  obtain ⟨⟨h0, h1, h2, h3, h4, h5⟩, h6, h7⟩ := hs
  rcases hf : fin .f32 (cn .f32 x)
  all_goals
    go_enter Try.func66, Try.ntmps66
    go_wp2_with (first | (with_reducible refine at_list ?_; refine wpList_fop rfl rfl rfl rfl rfl ?_; intro r n hr0; have hr := hr0 _ _ (by first | with_reducible assumption | exact rfl) (by first | with_reducible assumption | exact rfl); clear hr0) | (with_reducible refine at_list ?_; refine wpList_neg rfl rfl rfl ?_; intro r hr0; have hr := hr0 _ (by first | with_reducible assumption | exact rfl); clear hr0) | (with_reducible refine at_list ?_; refine wpList_fop_g rfl rfl rfl rfl rfl ?_; intro r n hr0; have hr := hr0 _ _ (by first | with_reducible assumption | exact rfl) (by first | with_reducible assumption | exact rfl); clear hr0) | (with_reducible refine at_list ?_; refine wpList_wide_g rfl rfl Try.underlying22 Try.underlying40 rfl ?_; intro r n hr0; have hr := hr0 _ (by first | with_reducible assumption | exact rfl); clear hr0) | (with_reducible refine at_list ?_; refine wpList_wide rfl rfl rfl Try.underlying22 Try.underlying40 ?_; intro r n hr0; have hr := hr0 _ (by first | with_reducible assumption | exact rfl); clear hr0) | (go_at_call 67; refine (IsFinite_any _ _).mono ?_; rintro e w' ⟨rfl, n, rfl⟩) | (go_at_call 68; refine (warmOf_any _ _ _).mono ?_; rintro e w' ⟨r, rfl, hr, hb⟩; obtain ⟨hT, hk⟩ := bv_next hb (by (repeat (with_reducible first | assumption | apply Trk.alloc | apply Trk.setCell | apply Trk.drewN | apply Trk.drew | exact Trk.nil _))); simp only [SameOn, World.size_alloc, World.size_setCell, World.size_drew, size_drewN', and_true] at hk; have hsz := Below.size hb; (try simp only [World.size_alloc, World.size_setCell, World.size_drew, size_drewN'] at hsz)))
    all_goals
      go_ret
      exact ⟨by simp [badC, *], by (repeat (first | (with_reducible exact Below.refl _ _) | (with_reducible assumption) | (with_reducible refine below_then ?_ (by assumption)) | (with_reducible refine Below.trans ?_ (by assumption)) | (with_reducible refine below_drewN ?_ _) | (with_reducible apply Below.drew) | (with_reducible refine below_alloc ?_ _) | refine Below.setCell ?_ (by first | (simp; done) | (simp; omega)) _))⟩
set_option maxHeartbeats 1000000 in
theorem implValidBar_any (s : St) (p : Nat) (v : Value) (xs : List Nat) (w : World) (hs : FS w v xs) : Calls Try.prog 21 #[.agg #[.float .f32 s.a, .float .f32 s.b, .float .f32 s.c, .float .f32 s.d, .float .f32 s.p, .float .f32 s.l, .float .f32 p, v]] w (BV w (.bool (barOk s p xs))) := by
  have HS := Lib.hid hs
  obtain ⟨q, c, rfl, hc1, hc2, _⟩ := FS_view hs
  clear hs
  rcases h0 : s.ok
  · go_enter Try.func21, Try.ntmps21
    go_wp2_with (first | (with_reducible refine at_list ?_; refine wpList_fop rfl rfl rfl rfl rfl ?_; intro r n hr0; have hr := hr0 _ _ (by first | with_reducible assumption | exact rfl) (by first | with_reducible assumption | exact rfl); clear hr0) | (with_reducible refine at_list ?_; refine wpList_neg rfl rfl rfl ?_; intro r hr0; have hr := hr0 _ (by first | with_reducible assumption | exact rfl); clear hr0) | (with_reducible refine at_list ?_; refine wpList_fop_g rfl rfl rfl rfl rfl ?_; intro r n hr0; have hr := hr0 _ _ (by first | with_reducible assumption | exact rfl) (by first | with_reducible assumption | exact rfl); clear hr0) | (with_reducible refine at_list ?_; refine wpList_wide_g rfl rfl Try.underlying22 Try.underlying40 rfl ?_; intro r n hr0; have hr := hr0 _ (by first | with_reducible assumption | exact rfl); clear hr0) | (with_reducible refine at_list ?_; refine wpList_wide rfl rfl rfl Try.underlying22 Try.underlying40 ?_; intro r n hr0; have hr := hr0 _ (by first | with_reducible assumption | exact rfl); clear hr0) | (go_at_call 63; refine (implValidStuff_any _ _).mono ?_; rintro e w' ⟨rfl, hb⟩; obtain ⟨hT, hk⟩ := bv_next hb (by (repeat (with_reducible first | assumption | apply Trk.alloc | apply Trk.setCell | apply Trk.drewN | apply Trk.drew | exact Trk.nil _))); simp only [SameOn, World.size_alloc, World.size_setCell, World.size_drew, size_drewN', and_true] at hk; have hsz := Below.size hb; (try simp only [World.size_alloc, World.size_setCell, World.size_drew, size_drewN'] at hsz)) | (go_at_call 64; refine (arePositive_any _ _ _ (by assumption)).mono ?_; rintro e w' ⟨rfl, n, rfl⟩))
    all_goals
      go_ret
      exact ⟨by simp [barOk, *], by (repeat (first | (with_reducible exact Below.refl _ _) | (with_reducible assumption) | (with_reducible refine below_then ?_ (by assumption)) | (with_reducible refine Below.trans ?_ (by assumption)) | (with_reducible refine below_drewN ?_ _) | (with_reducible apply Below.drew) | (with_reducible refine below_alloc ?_ _) | refine Below.setCell ?_ (by first | (simp; done) | (simp; omega)) _))⟩
  rcases h1 : abv (cn .f32 p)
  · go_enter Try.func21, Try.ntmps21
    go_wp2_with (first | (with_reducible refine at_list ?_; refine wpList_fop rfl rfl rfl rfl rfl ?_; intro r n hr0; have hr := hr0 _ _ (by first | with_reducible assumption | exact rfl) (by first | with_reducible assumption | exact rfl); clear hr0) | (with_reducible refine at_list ?_; refine wpList_neg rfl rfl rfl ?_; intro r hr0; have hr := hr0 _ (by first | with_reducible assumption | exact rfl); clear hr0) | (with_reducible refine at_list ?_; refine wpList_fop_g rfl rfl rfl rfl rfl ?_; intro r n hr0; have hr := hr0 _ _ (by first | with_reducible assumption | exact rfl) (by first | with_reducible assumption | exact rfl); clear hr0) | (with_reducible refine at_list ?_; refine wpList_wide_g rfl rfl Try.underlying22 Try.underlying40 rfl ?_; intro r n hr0; have hr := hr0 _ (by first | with_reducible assumption | exact rfl); clear hr0) | (with_reducible refine at_list ?_; refine wpList_wide rfl rfl rfl Try.underlying22 Try.underlying40 ?_; intro r n hr0; have hr := hr0 _ (by first | with_reducible assumption | exact rfl); clear hr0) | (go_at_call 63; refine (implValidStuff_any _ _).mono ?_; rintro e w' ⟨rfl, hb⟩; obtain ⟨hT, hk⟩ := bv_next hb (by (repeat (with_reducible first | assumption | apply Trk.alloc | apply Trk.setCell | apply Trk.drewN | apply Trk.drew | exact Trk.nil _))); simp only [SameOn, World.size_alloc, World.size_setCell, World.size_drew, size_drewN', and_true] at hk; have hsz := Below.size hb; (try simp only [World.size_alloc, World.size_setCell, World.size_drew, size_drewN'] at hsz)) | (go_at_call 64; refine ((arePos1_any _ _ _ (FS1 (by go_simp <;> exact rfl))) ).mono ?_; rintro e w' ⟨rfl, n, rfl⟩))
    all_goals
      go_ret
      exact ⟨by simp [barOk, *], by (repeat (first | (with_reducible exact Below.refl _ _) | (with_reducible assumption) | (with_reducible refine below_then ?_ (by assumption)) | (with_reducible refine Below.trans ?_ (by assumption)) | (with_reducible refine below_drewN ?_ _) | (with_reducible apply Below.drew) | (with_reducible refine below_alloc ?_ _) | refine Below.setCell ?_ (by first | (simp; done) | (simp; omega)) _))⟩
  by_cases h2 : xs.length < 1
  · go_enter Try.func21, Try.ntmps21
    go_wp2_with (first | (with_reducible refine at_list ?_; refine wpList_fop rfl rfl rfl rfl rfl ?_; intro r n hr0; have hr := hr0 _ _ (by first | with_reducible assumption | exact rfl) (by first | with_reducible assumption | exact rfl); clear hr0) | (with_reducible refine at_list ?_; refine wpList_neg rfl rfl rfl ?_; intro r hr0; have hr := hr0 _ (by first | with_reducible assumption | exact rfl); clear hr0) | (with_reducible refine at_list ?_; refine wpList_fop_g rfl rfl rfl rfl rfl ?_; intro r n hr0; have hr := hr0 _ _ (by first | with_reducible assumption | exact rfl) (by first | with_reducible assumption | exact rfl); clear hr0) | (with_reducible refine at_list ?_; refine wpList_wide_g rfl rfl Try.underlying22 Try.underlying40 rfl ?_; intro r n hr0; have hr := hr0 _ (by first | with_reducible assumption | exact rfl); clear hr0) | (with_reducible refine at_list ?_; refine wpList_wide rfl rfl rfl Try.underlying22 Try.underlying40 ?_; intro r n hr0; have hr := hr0 _ (by first | with_reducible assumption | exact rfl); clear hr0) | (go_at_call 63; refine (implValidStuff_any _ _).mono ?_; rintro e w' ⟨rfl, hb⟩; obtain ⟨hT, hk⟩ := bv_next hb (by (repeat (with_reducible first | assumption | apply Trk.alloc | apply Trk.setCell | apply Trk.drewN | apply Trk.drew | exact Trk.nil _))); simp only [SameOn, World.size_alloc, World.size_setCell, World.size_drew, size_drewN', and_true] at hk; have hsz := Below.size hb; (try simp only [World.size_alloc, World.size_setCell, World.size_drew, size_drewN'] at hsz)) | (go_at_call 64; refine ((arePos1_any _ _ _ (FS1 (by go_simp <;> exact rfl))) ).mono ?_; rintro e w' ⟨rfl, n, rfl⟩))
    all_goals
      go_ret
      exact ⟨by simp [barOk, *]; omega, by (repeat (first | (with_reducible exact Below.refl _ _) | (with_reducible assumption) | (with_reducible refine below_then ?_ (by assumption)) | (with_reducible refine Below.trans ?_ (by assumption)) | (with_reducible refine below_drewN ?_ _) | (with_reducible apply Below.drew) | (with_reducible refine below_alloc ?_ _) | refine Below.setCell ?_ (by first | (simp; done) | (simp; omega)) _))⟩
  by_cases h3 : 48 < xs.length
  · go_enter Try.func21, Try.ntmps21
    go_wp2_with (first | (with_reducible refine at_list ?_; refine wpList_fop rfl rfl rfl rfl rfl ?_; intro r n hr0; have hr := hr0 _ _ (by first | with_reducible assumption | exact rfl) (by first | with_reducible assumption | exact rfl); clear hr0) | (with_reducible refine at_list ?_; refine wpList_neg rfl rfl rfl ?_; intro r hr0; have hr := hr0 _ (by first | with_reducible assumption | exact rfl); clear hr0) | (with_reducible refine at_list ?_; refine wpList_fop_g rfl rfl rfl rfl rfl ?_; intro r n hr0; have hr := hr0 _ _ (by first | with_reducible assumption | exact rfl) (by first | with_reducible assumption | exact rfl); clear hr0) | (with_reducible refine at_list ?_; refine wpList_wide_g rfl rfl Try.underlying22 Try.underlying40 rfl ?_; intro r n hr0; have hr := hr0 _ (by first | with_reducible assumption | exact rfl); clear hr0) | (with_reducible refine at_list ?_; refine wpList_wide rfl rfl rfl Try.underlying22 Try.underlying40 ?_; intro r n hr0; have hr := hr0 _ (by first | with_reducible assumption | exact rfl); clear hr0) | (go_at_call 63; refine (implValidStuff_any _ _).mono ?_; rintro e w' ⟨rfl, hb⟩; obtain ⟨hT, hk⟩ := bv_next hb (by (repeat (with_reducible first | assumption | apply Trk.alloc | apply Trk.setCell | apply Trk.drewN | apply Trk.drew | exact Trk.nil _))); simp only [SameOn, World.size_alloc, World.size_setCell, World.size_drew, size_drewN', and_true] at hk; have hsz := Below.size hb; (try simp only [World.size_alloc, World.size_setCell, World.size_drew, size_drewN'] at hsz)) | (go_at_call 64; refine ((arePos1_any _ _ _ (FS1 (by go_simp <;> exact rfl))) ).mono ?_; rintro e w' ⟨rfl, n, rfl⟩))
    all_goals
      go_ret
      exact ⟨by simp [barOk, *]; omega, by (repeat (first | (with_reducible exact Below.refl _ _) | (with_reducible assumption) | (with_reducible refine below_then ?_ (by assumption)) | (with_reducible refine Below.trans ?_ (by assumption)) | (with_reducible refine below_drewN ?_ _) | (with_reducible apply Below.drew) | (with_reducible refine below_alloc ?_ _) | refine Below.setCell ?_ (by first | (simp; done) | (simp; omega)) _))⟩
  have e2 : decide (1 ≤ xs.length) = true := by simp; omega
  have e3 : decide (xs.length ≤ 48) = true := by simp; omega
  have HE : Hid (barOk s p xs = !xs.any fun x => badC s.k (cn .f32 x)) := by show _ = _; simp only [barOk, h0, h1, e2, e3, Bool.true_and]
  clear e2 e3
  go_enter Try.func21, Try.ntmps21
  go_wp2_with (first | (with_reducible refine at_list ?_; refine wpList_fop rfl rfl rfl rfl rfl ?_; intro r n hr0; have hr := hr0 _ _ (by first | with_reducible assumption | exact rfl) (by first | with_reducible assumption | exact rfl); clear hr0) | (with_reducible refine at_list ?_; refine wpList_neg rfl rfl rfl ?_; intro r hr0; have hr := hr0 _ (by first | with_reducible assumption | exact rfl); clear hr0) | (with_reducible refine at_list ?_; refine wpList_fop_g rfl rfl rfl rfl rfl ?_; intro r n hr0; have hr := hr0 _ _ (by first | with_reducible assumption | exact rfl) (by first | with_reducible assumption | exact rfl); clear hr0) | (with_reducible refine at_list ?_; refine wpList_wide_g rfl rfl Try.underlying22 Try.underlying40 rfl ?_; intro r n hr0; have hr := hr0 _ (by first | with_reducible assumption | exact rfl); clear hr0) | (with_reducible refine at_list ?_; refine wpList_wide rfl rfl rfl Try.underlying22 Try.underlying40 ?_; intro r n hr0; have hr := hr0 _ (by first | with_reducible assumption | exact rfl); clear hr0) | (go_at_call 65; refine (ContainsFuncC_any 66 _ (fun x => badC s.k (cn .f32 x)) xs _ _ (HS.out.later (by (repeat (first | (with_reducible exact Below.refl _ _) | (with_reducible assumption) | (with_reducible refine below_then ?_ (by assumption)) | (with_reducible refine Below.trans ?_ (by assumption)) | (with_reducible refine below_drewN ?_ _) | (with_reducible apply Below.drew) | (with_reducible refine below_alloc ?_ _) | refine Below.setCell ?_ (by first | (simp; done) | (simp; omega)) _)))) (fun x w' => by kernel_rfl) (fun x w2 hb2 => ValidBar1_any s p (.slice q xs.length c) x _ _ w2 (by obtain ⟨hT, hk⟩ := bv_next hb2 (by (repeat (with_reducible first | assumption | apply Trk.alloc | apply Trk.setCell | apply Trk.drewN | apply Trk.drew | exact Trk.nil _))); simp only [SameOn, World.size_alloc, World.size_setCell, World.size_drew, size_drewN', and_true] at hk; have hsz := Below.size hb2; (try simp only [World.size_alloc, World.size_setCell, World.size_drew, size_drewN'] at hsz); exact (by unfold BarAt St.at; refine ⟨⟨?_, ?_, ?_, ?_, ?_, ?_⟩, ?_, ?_⟩ <;> go_simp)))).mono ?_; rintro e w' ⟨rfl, hb⟩; obtain ⟨hT, hk⟩ := bv_next hb (by (repeat (with_reducible first | assumption | apply Trk.alloc | apply Trk.setCell | apply Trk.drewN | apply Trk.drew | exact Trk.nil _))); simp only [SameOn, World.size_alloc, World.size_setCell, World.size_drew, size_drewN', and_true] at hk; have hsz := Below.size hb; (try simp only [World.size_alloc, World.size_setCell, World.size_drew, size_drewN'] at hsz)) | (go_at_call 63; refine (implValidStuff_any _ _).mono ?_; rintro e w' ⟨rfl, hb⟩; obtain ⟨hT, hk⟩ := bv_next hb (by (repeat (with_reducible first | assumption | apply Trk.alloc | apply Trk.setCell | apply Trk.drewN | apply Trk.drew | exact Trk.nil _))); simp only [SameOn, World.size_alloc, World.size_setCell, World.size_drew, size_drewN', and_true] at hk; have hsz := Below.size hb; (try simp only [World.size_alloc, World.size_setCell, World.size_drew, size_drewN'] at hsz)) | (go_at_call 64; refine ((arePos1_any _ _ _ (FS1 (by go_simp <;> exact rfl))) ).mono ?_; rintro e w' ⟨rfl, n, rfl⟩))
  all_goals
    go_ret
    exact ⟨by rw [HE.out]; rfl, by (repeat (first | (with_reducible exact Below.refl _ _) | (with_reducible assumption) | (with_reducible refine below_then ?_ (by assumption)) | (with_reducible refine Below.trans ?_ (by assumption)) | (with_reducible refine below_drewN ?_ _) | (with_reducible apply Below.drew) | (with_reducible refine below_alloc ?_ _) | refine Below.setCell ?_ (by first | (simp; done) | (simp; omega)) _))⟩
end Go.Proofs.Ytjeeflldbhajiaa
set_option linter.unusedSimpArgs false
set_option linter.unusedVariables false
set_option linter.unusedSectionVars false
namespace Go.Proofs.Ytjeeflldbhajiaa
open Go Go.RowKit
/-- A sum from left to right. -/
def accC (f : Nat → Nat) (xs : List Nat) : Nat := xs.foldl (fun a x => fop .add .f32 a (f (cn .f32 x))) (cn .f32 0)
theorem accC_step (f : Nat → Nat) (xs : List Nat) {k : Nat} (h : k < xs.length) : accC f (xs.take (k + 1)) = fop .add .f32 (accC f (xs.take k)) (f (cn .f32 (xs.getD k 0))) := by
  unfold accC
  rw [List.take_add_one, List.foldl_append, List.getElem?_eq_getElem h, List.getD_eq_getElem?_getD, List.getElem?_eq_getElem h]
  rfl
theorem cn_accC (f : Nat → Nat) (xs : List Nat) : cn .f32 (accC f xs) = accC f xs := by
  rcases List.eq_nil_or_concat xs with rfl | ⟨l, x, rfl⟩
  · exact cn_cn .f32 0
  · unfold accC; simp only [List.concat_eq_append, List.foldl_append, List.foldl_cons, List.foldl_nil]; exact cn_fop _ _ _ _
end Go.Proofs.Ytjeeflldbhajiaa
