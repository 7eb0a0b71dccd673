/-
  Plans of operations that turn memory, of which the last ones need not keep what floating loads ask: they wait for these. No condition; nothing of the program is named here.
  Draws that append to the lists of a variable. No condition but what each contract says.
  What the statements draw: a rod of small dyadic numbers. No condition but what each contract says.
  What the statements draw: a rod. No condition but what each contract says.
  Bytes handed in: their lengths, a number chosen by one of them; how they are opened. No condition but what each contract says.
  Bytes handed in, for the laws of the other family: their lengths, a number chosen by one of them. No condition but what each contract says.
  What the law on rods calls, with drawn rods. No condition but what each contract says.
-/
import Derived.Test.YtpnkapdemgieaaaRM13
import Derived.Test.YtpnkapdemgieaaaRM4
import Derived.Test.YtpnkapdemgieaaaRM9
import Derived.Test.YtpnkapdemgieaaaRM11
import Derived.Deep.Slices
import Derived.Test.YtpnkapdemgieaaaRM3
import Derived.Test.YtpnkapdemgieaaaRM10
set_option linter.unusedSimpArgs false
set_option linter.unusedVariables false
set_option linter.unusedSectionVars false
namespace Go.Proofs.Ytpnkapdemgieaaa
open Go Go.RowKit
section
variable {P : Program} {ops : Array Oper} {Q : Exit → Act → World → Prop} {F : World → Prop}
theorem uponC_weak {P : Program} {T T' : Value → World → Prop} {r : Result Next} (hT : ∀ u w, T u w → T' u w) (h : uponC P T r) : uponC P T' r := by
  unfold uponC at h ⊢
  split at h
  · exact hT _ _ h
  · exact hT _ _ h
  · refine Calls.mono h ?_
    rintro e w' ⟨v, he, hv⟩
    exact ⟨v, he, hT _ _ hv⟩
  · exact h.elim
theorem stepG_mode {I : World → Prop} {o : Oper} {g : GC} {ks : List (Nat × (World → Prop))} {a : Act} (h : stepG P ops F I o g ks a) : g.c.mode ≠ 5 := by
  rcases h with ⟨_, h, _⟩ | ⟨_, h, _⟩ <;> omega
theorem stepH_of {I : World → Prop} {o : Oper} {g : GC} {ks : List (Nat × (World → Prop))} {a : Act} (h : stepG P ops F I o g ks a) : stepH P ops F (fun _ _ => True) I o g ks [] a := by
  have hm := stepG_mode h
  rcases h with ⟨h1, h2, h3, h4, h5, h6⟩ | h
  · refine .inl ⟨h1, by omega, h3, h4, fun e w hi hk _ => h5 e w hi hk, fun e w hi hk _ => ?_, fun e => absurd e hm⟩
    exact uponC_weak (fun u w' hT => ⟨⟨hT.1, trivial⟩, hT.2⟩) (h6 e w hi hk)
  · exact .inr h
theorem wpH_of : ∀ (I : World → Prop) (l : List Oper) (cs : List GC) (i : Nat) (ks : List (Nat × (World → Prop))) (a : Act), wpG P ops Q F I l cs i ks a → wpH P ops Q F (fun _ _ => True) I l cs i ks [] a
  | I, [], [], i, ks, a, h => (by unfold wpG at h; unfold wpH; exact fun w hi hk _ => h w hi hk)
  | I, [], c :: cs, i, ks, a, h => (by unfold wpG at h; exact h.elim)
  | I, o :: l, [], i, ks, a, h => (by unfold wpG at h; exact h.elim)
  | I, o :: l, g :: cs, i, ks, a, h => by
    unfold wpG at h
    unfold wpH
    have hm := stepG_mode h.1
    refine ⟨stepH_of h.1, fun v hv => ?_⟩
    have e2 : nextH g.c i (g.c.K (oargs ops o a) v) ks = nextG g.c i (g.c.K (oargs ops o a) v) ks := by
      unfold nextH
      split
      · exact absurd (by assumption) hm
      · rfl
    have e3 : nextP g.c i (g.c.K (oargs ops o a) v) ([] : List (Nat × (World → Prop))) = [] := by
      unfold nextP
      split
      · exact absurd (by assumption) hm
      · rfl
    rw [e2, e3]
    exact wpH_of _ l cs _ _ _ (h.2 v hv)
theorem wp_region_planL {id : Nat} {a : Act} {W : World} {l : List Oper} {cs : List GC} (I0 : World → Prop) (hI0 : ∀ w w', I0 w → Below w.heap.size w w' → I0 w') (hW : I0 W) (hF0 : ∀ w, I0 w → F w)
    (hw : wpG P l.toArray Q F I0 l cs 0 [] a) (hFs : allH l.toArray (cs.map (·.c.mode)) F 0 cs) (hpr1 : P.follows .mixedOrders = true) (hpr2 : planB l.toArray = true) (hpr3 : barH l.toArray (cs.map (·.c.mode)) = true) (hlen : cs.length = l.length) : (Code.region id l.toArray true).wp P Q a W :=
  wp_region_planH I0 hI0 hW hF0 (wpH_of _ _ _ _ _ _ hw) hFs hpr1 hpr2 hpr3 hlen
end
end Go.Proofs.Ytpnkapdemgieaaa
set_option linter.unusedSimpArgs false
set_option linter.unusedVariables false
set_option linter.unusedSectionVars false
namespace Go.Proofs.Ytpnkapdemgieaaa
open Go Go.RowKit
open Go.ChangeShapes Go.WideShapes Go.ChangeAt Go.RowKit Go.Joins
theorem turn_grown {s : Nat} {a c : World} (h : Turn s (s + 1) a c) : a.grownBy c (some s) := ⟨h.os, h.tape, h.output, h.size, fun k hk hne => h.block k hk (by
  rcases Nat.lt_trichotomy k s with h1 | h1 | h1
  · exact .inl h1
  · exact absurd (by rw [h1]) hne
  · exact .inr h1)⟩
/-- What a draw of a bar has turned: the source; the bar stands in its variable. -/
def DBI (B sb K : Nat) (W : World) (b : Nat) (cs : List Value) (u : World) : Prop := SrcAt u sb K ∧ Turn sb (sb + 1) W u ∧ owned u b cs ∧ (B ≤ b ∧ b < u.heap.size)
theorem DBI.later {B sb K : Nat} {W : World} {b : Nat} {cs : List Value} {u u' : World} (h : DBI B sb K W b cs u) (hb : Below u.heap.size u u') : DBI B sb K W b cs u' :=
  ⟨h.1.later hb h.1.lt, h.2.1.trans (Turn.below hb), h.2.2.1.later hb, h.2.2.2.1, Nat.lt_of_lt_of_le h.2.2.2.2 hb.size⟩
theorem DBI.drawn {B sb K L : Nat} {W : World} {b : Nat} {cs : List Value} {u u' : World} (h : DBI B sb K W b cs u) (hs : sb < B) (hg : Turn sb (sb + 1) u u') (hk : SrcAt u' sb L) : DBI B sb L W b cs u' :=
  ⟨hk, h.2.1.trans hg, owned_kept h.2.2.1 (turn_grown hg) h.2.2.2.2 (fun k hk => by cases hk; have := h.2.2.2.1; omega), h.2.2.2.1, Nat.lt_of_lt_of_le h.2.2.2.2 hg.size⟩
theorem SrcAt.grown {u u' : World} {sb K : Nat} {g : Option Nat} (h : SrcAt u sb K) (hg : u.grownBy u' g) (hne : ∀ k, g = some k → sb < k) : SrcAt u' sb K := by
  have hlt := h.lt
  obtain ⟨p, n, c, kk, s, ⟨a0, a1, a2⟩, ⟨f1, f2⟩, hby, hr⟩ := h
  have bl : ∀ k, k ≤ sb → u'.heap[k]? = u.heap[k]? := fun k hk => hg.block k (by omega) (fun e => by have := hne k e.symm; omega)
  refine ⟨p, n, c, kk, s, ⟨(World.cell?_of_block (bl sb (Nat.le_refl _))).trans a0, (World.cell?_of_block (bl sb (Nat.le_refl _))).trans a1, (World.cell?_of_block (bl sb (Nat.le_refl _))).trans a2⟩, ⟨(World.frozen?_of_block (bl sb (Nat.le_refl _))).trans f1, (World.frozen?_of_block (bl sb (Nat.le_refl _))).trans f2⟩, ⟨hby.1, fun i hi => ?_⟩, hr⟩
  obtain ⟨b', o', x, e1, e2, e3, e4⟩ := hby.2 i hi
  exact ⟨b', o', x, e1, e2, (World.cell?_of_block (bl b' (by omega))).trans e3, e4⟩
theorem DBI.grown {B sb K : Nat} {W : World} {b : Nat} {cs : List Value} {u u' : World} {g : Option Nat} (h : DBI B sb K W b cs u) (hs : sb < B) (hW : W.heap.size ≤ B) (hg : u.grownBy u' g) (hne : ∀ k, g = some k → k ≠ b ∧ B ≤ k) : DBI B sb K W b cs u' :=
  ⟨h.1.grown hg (fun k hk => by have := (hne k hk).2; omega), ⟨hg.os.trans h.2.1.os, hg.tape.trans h.2.1.tape, hg.output.trans h.2.1.output, Nat.le_trans h.2.1.size hg.size, fun k hk hr => (hg.block k (Nat.lt_of_lt_of_le hk h.2.1.size) (fun e => by have := (hne k e.symm).2; omega)).trans (h.2.1.block k hk hr)⟩,
    owned_kept h.2.2.1 hg h.2.2.2.2 (fun k hk => (hne k hk).1), h.2.2.2.1, Nat.lt_of_lt_of_le h.2.2.2.2 hg.size⟩
section
variable {ops : Array Oper} {Q : Exit → Act → World → Prop} {F : World → Prop}
variable {l : List Oper} {cs : List GC} {i : Nat} {ks : List (Nat × (World → Prop))} {a : Act} {o : Oper}
theorem wpG_pickI {I I' : World → Prop} {b K : Nat} {n : Int} (hI' : ∀ w w', I' w → Below w.heap.size w w' → I' w') (hn : 1 ≤ n ∧ n ≤ 1000000000) (hK : K ≤ 900000) (hw : Region.wanted o (yielded ops a.tmps) = true) (he : ∀ w, (execOp a.eval o).run Try.prog w = .ok (.enter 34 #[.pointer (some ⟨b, 0, none⟩), .int .i64 n]) w)
    (hs : ∀ w, I w → SrcAt w b K) (hd : ∀ w w', I w → Turn b (b + 1) w w' → SrcAt w' b (K + 2) → I' w')
    (h : ∀ r, 0 ≤ r → r ≤ n - 1 → wpG Try.prog ops Q F I' l cs (i + 1) [(i, fun _ => True)] (a.put o.dst (.int .i64 r))) : wpG Try.prog ops Q F I (o :: l) (⟨Clm.pick (n - 1), I', hI'⟩ :: cs) i ks a := by
  refine wpG_turnC (Clm.pick (n - 1)) rfl _ _ hw he (fun w hi hk => ?_) ?_
  · refine (pick_any b K n w (hs w hi) hK hn).mono ?_
    rintro e w' ⟨r, rfl, ⟨h1, h2⟩, hg, hz, hs⟩
    exact ⟨_, rfl, hd w w' hi hg hs, ⟨r, rfl, fun _ => ⟨h1, h2⟩⟩, trivial⟩
  · rintro v ⟨r, rfl, h2⟩
    have := h2 (by omega)
    exact h r this.1 this.2
theorem OF.setC {B : Nat} {w : World} {u : Value} {xs : List Nat} (h : OF B w u xs) {a : Addr} (hb : a.block < B) (v : Value) : OF B (w.setCell a v) u xs := by
  have hg : w.grownBy (w.setCell a v) (some a.block) := ⟨rfl, rfl, rfl, by simp, fun k _ hk => Below.heap_setCell _ _ _ _ (fun e => hk (by rw [e]))⟩
  refine h.kept hg ?_
  cases hu : u.ownBlock with
  | none => exact .inl rfl
  | some k => refine .inr fun e => ?_; have := (h.block k hu).1; cases e; omega
end
/-- An own slice with a number more of a class; where it lies. -/
def appD (B S : Nat) (g0 : Option Nat) (xs : List Nat) (R : Nat → Prop) (v : Value) (w : World) : Prop := ∃ r, R r ∧ appP B S g0 (xs ++ [r]) v w
def Clm.appD (B S : Nat) (g0 : Option Nat) (xs : List Nat) (R : Nat → Prop) : Clm := ⟨3, fun _ u => ∃ q c, u = .slice q (xs.length + 1) c, fun _ u w => Go.Proofs.Ytpnkapdemgieaaa.appD B S g0 xs R u w, fun _ => ⟨_, none, 0, rfl⟩, fun _ _ _ _ h hb => (by obtain ⟨r, h1, h2⟩ := h; exact ⟨r, h1, h2.later hb⟩), fun h => nomatch h⟩
theorem wpG_appD {ops : Array Oper} {Q : Exit → Act → World → Prop} {F I : World → Prop} {l : List Oper} {cs : List GC} {i : Nat} {ks : List (Nat × (World → Prop))} {a : Act} {o : Oper} (B S : Nat) (xs : List Nat) (R : Nat → Prop) (r : Nat) (I' : World → Prop) (hI : ∀ w w', I' w → Below w.heap.size w w' → I' w') {s x : Operand} {v : Value} {b : Nat}
    (ho : o.op = .call { callee := .builtin .append, args := #[s, x], argTypes := #[24, 24] }) (hs : a.eval s = v) (hx : a.eval x = .slice (some ⟨b, 0, .none⟩) 1 1)
    (hw : Region.wanted o (yielded ops a.tmps) = true) (hR : R r) (hk : ∀ w, I w → depK o ks w → (OF B w v xs ∧ w.cell? ⟨b, 0, .none⟩ = some (.float .f32 r)) ∧ B ≤ w.heap.size ∧ S ≤ w.heap.size) (hn : xs.length < 1048576)
    (hI' : ∀ w w', I w → w.grownBy w' v.ownBlock → I' w')
    (h : ∀ q c, wpG Try.prog ops Q F I' l cs (i + 1) [(i, fun w => appD B S v.ownBlock xs R (.slice q (xs.length + 1) c) w)] (a.put o.dst (.slice q (xs.length + 1) c))) : wpG Try.prog ops Q F I (o :: l) (⟨Clm.appD B S v.ownBlock xs R, I', hI⟩ :: cs) i ks a := by
  obtain ⟨i0, hi, hz0, hz1, hz2⟩ := info_parts Try.infoF32
  refine wpG_turnE (Clm.appD B S v.ownBlock xs R) rfl I' hI hw (fun w hb hd => ?_) ?_
  · obtain ⟨⟨hO, hc⟩, hB, hS⟩ := hk w hb hd
    obtain ⟨v', w', hr, h2, h3, h4, h5⟩ := run_append_own_at (P := Try.prog) w B 24 o.type 28 i0 (.float .f32 0) 1 4 Try.underlying24 hi hz0 hz1 hz2 rfl (by decide) v xs.length (xs.map (Value.float .f32)) hO ⟨b, 0, .none⟩ 1 1 [.float .f32 r] rfl
      (by
        intro j u hj
        match j, hj with
        | 0, hj => simp at hj; subst hj; simpa [Addr.add] using hc
        | j + 1, hj => simp at hj) (by intro u hu; simp at hu; subst hu; rfl) (by unfold maxLen; omega) (by omega) hB
    have hO' : OF B w' v' (xs ++ [r]) := by
      unfold OF
      simpa using h2
    have he : (execOp a.eval o).run Try.prog w = .ok (.value v') w' := by
      unfold execOp
      simp only [ho, resolve, invoke, builtin, Sem.run_bind, Sem.run_pure, Result.andThen_ok, List.map_toArray, List.map_cons, List.map_nil, hs, hx, hr]
    rw [he]
    have hsh := hO'.shape
    rw [show (xs ++ [r]).length = xs.length + 1 by simp] at hsh
    exact ⟨hI' w w' hb h3, hsh, r, hR, hO', h5.imp id fun h k hk => by rw [h] at hk; cases hk; exact hS⟩
  · rintro u ⟨q, c, rfl⟩
    exact h q c
theorem owned_put {w : World} {b : Nat} {cs : List Value} {j : Nat} (h : owned w b cs) (hj : j < cs.length) (x : Value) : owned (w.setCell ⟨b, j, none⟩ x) b (cs.set j x) := by
  intro k y hk
  have hkl : k < cs.length := by have := (List.getElem?_eq_some_iff.1 hk).1; simpa using this
  have h1 := h k cs[k] (List.getElem?_eq_getElem hkl)
  refine ⟨?_, by rw [World.frozen?_setCell]; exact h1.2⟩
  by_cases e : j = k
  · subst e
    rw [World.cell?_setCell_same' _ _ _ (by rw [h1.1]; rfl)]
    rw [List.getElem?_set_self hkl] at hk
    exact hk
  · rw [List.getElem?_set_ne e] at hk
    rw [World.cell?_setCell_other]
    · exact (h k y hk).1
    · intro he
      simp only [Addr.mk.injEq, and_true, true_and] at he
      exact e he
/-- The four lists of a variable. -/
structure RX4 (B sb K : Nat) (W : World) (b : Nat) (X : Nat → Value) (L : Nat → List Nat) (u : World) : Prop where
  d : DBI B sb K W b [X 0, X 1, X 2, X 3] u
  o : ∀ i, i < 4 → OF B u (X i) (L i)
  ne : ∀ i, i < 4 → ∀ k, (X i).ownBlock = some k → k ≠ b
  ap : ∀ i j, i < 4 → j < 4 → i ≠ j → (X i).ownBlock = none ∨ (X i).ownBlock ≠ (X j).ownBlock
/-- All but one of them. -/
def RO4 (B sb K : Nat) (W : World) (b : Nat) (X : Nat → Value) (L : Nat → List Nat) (i : Nat) (u : World) : Prop := DBI B sb K W b [X 0, X 1, X 2, X 3] u ∧ ∀ j, j < 4 → j ≠ i → OF B u (X j) (L j)
def up {α : Type} (f : Nat → α) (i : Nat) (v : α) (j : Nat) : α := if j = i then v else f j
theorem RX4.later {B sb K : Nat} {W : World} {b : Nat} {X : Nat → Value} {L : Nat → List Nat} {u u' : World} (h : RX4 B sb K W b X L u) (hb : Below u.heap.size u u') : RX4 B sb K W b X L u' := ⟨h.d.later hb, fun i hi => (h.o i hi).later hb, h.ne, h.ap⟩
theorem RO4.later {B sb K : Nat} {W : World} {b : Nat} {X : Nat → Value} {L : Nat → List Nat} {i : Nat} {u u' : World} (h : RO4 B sb K W b X L i u) (hb : Below u.heap.size u u') : RO4 B sb K W b X L i u' := ⟨h.1.later hb, fun j h1 h2 => (h.2 j h1 h2).later hb⟩
theorem RX4.drawn {B sb K K' : Nat} {W : World} {b : Nat} {X : Nat → Value} {L : Nat → List Nat} {u u' : World} (h : RX4 B sb K W b X L u) (hs : sb < B) (hg : Turn sb (sb + 1) u u') (hk : SrcAt u' sb K') : RX4 B sb K' W b X L u' :=
  ⟨h.d.drawn hs hg hk, fun i hi => (h.o i hi).kept (turn_grown hg) (by
    cases hu : (X i).ownBlock with
    | none => exact .inl rfl
    | some k => refine .inr fun e => ?_; have := ((h.o i hi).block k hu).1; cases e; omega), h.ne, h.ap⟩
theorem RX4.app {B sb K : Nat} {W : World} {b : Nat} {X : Nat → Value} {L : Nat → List Nat} {i : Nat} {u u' : World} (h : RX4 B sb K W b X L u) (hi : i < 4) (hs : sb < B) (hW : W.heap.size ≤ B) (hg : u.grownBy u' (X i).ownBlock) : RO4 B sb K W b X L i u' :=
  ⟨h.d.grown hs hW hg (fun k hk => ⟨h.ne i hi k hk, ((h.o i hi).block k hk).1⟩), fun j h1 h2 => (h.o j h1).kept hg (h.ap j i h1 hi h2)⟩
/-- One list more is stored. -/
def RT4 (B sb K : Nat) (W : World) (b : Nat) (X : Nat → Value) (L : Nat → List Nat) (i S : Nat) (R : Nat → Prop) (u : World) : Prop := ∃ q2 c2, RO4 B sb K W b (up X i (.slice q2 ((L i).length + 1) c2)) L i u ∧ appD B S (X i).ownBlock (L i) R (.slice q2 ((L i).length + 1) c2) u
theorem RT4.later {B sb K : Nat} {W : World} {b : Nat} {X : Nat → Value} {L : Nat → List Nat} {i S : Nat} {R : Nat → Prop} {u u' : World} (h : RT4 B sb K W b X L i S R u) (hb : Below u.heap.size u u') : RT4 B sb K W b X L i S R u' := by
  obtain ⟨q9, c9, h1, r9, h2, h3⟩ := h
  exact ⟨q9, c9, h1.later hb, r9, h2, h3.later hb⟩
theorem up_at {α : Type} (f : Nat → α) (i : Nat) (v : α) : up f i v i = v := if_pos rfl
theorem up_ne {α : Type} {f : Nat → α} {i j : Nat} (v : α) (h : j ≠ i) : up f i v j = f j := if_neg h
theorem RO4.put {B sb K : Nat} {W : World} {b : Nat} {X : Nat → Value} {L : Nat → List Nat} {i : Nat} {u : World} (h : RO4 B sb K W b X L i u) (hi : i < 4) (hs : sb < B) (hW : W.heap.size ≤ B) (hne : ∀ j, j < 4 → j ≠ i → ∀ k, (X j).ownBlock = some k → k ≠ b) (v : Value) : RO4 B sb K W b (up X i v) L i (u.setCell ⟨b, i, none⟩ v) := by
  have hg : u.grownBy (u.setCell ⟨b, i, none⟩ v) (some b) := ⟨rfl, rfl, rfl, by simp, fun k _ hk => Below.heap_setCell _ _ _ _ (fun e => hk (by rw [e]))⟩
  obtain ⟨hd, ho⟩ := h
  have hB := hd.2.2.2.1
  refine ⟨⟨hd.1.grown hg (fun k hk => by cases hk; omega), ⟨hg.os.trans hd.2.1.os, hg.tape.trans hd.2.1.tape, hg.output.trans hd.2.1.output, Nat.le_trans hd.2.1.size hg.size, fun k hk hr => (hg.block k (Nat.lt_of_lt_of_le hk hd.2.1.size) (fun e => by cases e; omega)).trans (hd.2.1.block k hk hr)⟩, ?_, hB, Nat.lt_of_lt_of_le hd.2.2.2.2 hg.size⟩, fun j h1 h2 => ?_⟩
  · have e : [up X i v 0, up X i v 1, up X i v 2, up X i v 3] = [X 0, X 1, X 2, X 3].set i v := by
      rcases (show i = 0 ∨ i = 1 ∨ i = 2 ∨ i = 3 by omega) with rfl | rfl | rfl | rfl <;> rfl
    rw [e]
    exact owned_put hd.2.2.1 hi v
  · rw [up_ne v h2]
    refine (ho j h1 h2).kept hg ?_
    cases hu : (X j).ownBlock with
    | none => exact .inl rfl
    | some k => refine .inr fun e => ?_; cases e; exact hne j h1 h2 _ hu rfl
/-- Behind the store all four stand. -/
theorem RT4.all {B sb K : Nat} {W : World} {b : Nat} {X : Nat → Value} {L : Nat → List Nat} {i S : Nat} {R : Nat → Prop} {u : World} (h : RT4 B sb K W b X L i S R u) (hi : i < 4) (hne : ∀ j, j < 4 → ∀ k, (X j).ownBlock = some k → k ≠ b) (hb : b < S) (hap : ∀ j m, j < 4 → m < 4 → j ≠ m → (X j).ownBlock = none ∨ (X j).ownBlock ≠ (X m).ownBlock) (hS : ∀ j, j < 4 → ∀ k, (X j).ownBlock = some k → k < S) :
    ∃ q2 c2 r, R r ∧ RX4 B sb K W b (up X i (.slice q2 (L i ++ [r]).length c2)) (up L i (L i ++ [r])) u := by
  obtain ⟨q2, c2, ⟨hd, ho⟩, r, hr, hO, hbk⟩ := h
  have el : (L i ++ [r]).length = (L i).length + 1 := by simp
  refine ⟨q2, c2, r, hr, ?_⟩
  rw [el]
  refine ⟨hd, fun j hj => ?_, fun j hj k hk => ?_, fun j m hj hm hjm => ?_⟩
  · by_cases e : j = i
    · subst e; rw [up_at, up_at]; exact hO
    · have := ho j hj e
      rw [up_ne _ e] at this
      rw [up_ne _ e, up_ne _ e]; exact this
  · by_cases e : j = i
    · subst e
      rw [up_at] at hk
      rcases hbk with h9 | h9
      · rw [h9] at hk; exact hne j hj k hk
      · have := h9 k hk; omega
    · rw [up_ne _ e] at hk; exact hne j hj k hk
  · by_cases e : j = i
    · subst e
      rw [up_at, up_ne _ (fun h => hjm h.symm)]
      rcases hbk with h9 | h9
      · rw [h9]; exact hap j m hj hm hjm
      · cases hu : (Value.slice q2 ((L j).length + 1) c2).ownBlock with
        | none => exact .inl rfl
        | some k => exact .inr fun e2 => by have h1 := h9 k hu; have h2 := hS m hm k e2.symm; omega
    · rw [up_ne _ e]
      by_cases e2 : m = i
      · subst e2
        rw [up_at]
        rcases hbk with h9 | h9
        · rw [h9]; exact hap j m hj hm hjm
        · cases hu : (X j).ownBlock with
          | none => exact .inl rfl
          | some k => exact .inr fun e3 => by have h1 := h9 k e3.symm; have h2 := hS j hj k hu; omega
      · rw [up_ne _ e2]; exact hap j m hj hm hjm
end Go.Proofs.Ytpnkapdemgieaaa
set_option linter.unusedSimpArgs false
set_option linter.unusedVariables false
set_option linter.unusedSectionVars false
namespace Go.Proofs.Ytpnkapdemgieaaa
open Go Go.RowKit
open Go.ChangeShapes Go.WideShapes Go.ChangeAt Go.RowKit Go.Joins
/-- A drawn number of the i-th list. -/
def RDC (i : Nat) (x : Nat) : Prop := ∃ m : Int, ((if i = 3 then -16 else 1) ≤ m ∧ m ≤ (if i = 3 then 16 else 8)) ∧ cn .f32 x = fop .quo .f32 (cn .f32 (floatOfInt .f32 m)) (cn .f32 (if i = 3 then 1073741824 else 1082130432))
theorem rdc0 {i : Nat} (hi : i ≠ 3) {m : Int} {r : Nat} (h : 1 ≤ m ∧ m ≤ 8) (hr : cn .f32 r = fop .quo .f32 (cn .f32 (floatOfInt .f32 m)) (cn .f32 1082130432)) : RDC i r := by
  refine ⟨m, ?_, ?_⟩
  · rw [if_neg hi, if_neg hi]; exact h
  · rw [if_neg hi]; exact hr
theorem rdc3 {m : Int} {r : Nat} (h : -16 ≤ m ∧ m ≤ 16) (hr : cn .f32 r = fop .quo .f32 (cn .f32 (floatOfInt .f32 m)) (cn .f32 1073741824)) : RDC 3 r := ⟨m, h, hr⟩
def DC (i : Nat) (xs : List Nat) : Prop := ∀ j, j < xs.length → xs.getD j 0 < 4294967296 ∧ RDC i (xs.getD j 0)
theorem RDC.lt {i r : Nat} (h : RDC i r) : r < 4294967296 := by
  obtain ⟨m, hm, hr⟩ := h
  by_cases hi : i = 3
  · rw [if_pos hi, if_pos hi] at hm
    rw [if_pos hi] at hr
    exact raw_lt hr (half_val (n := m) (by omega)).1 (fop_lt _ _ _)
  · rw [if_neg hi, if_neg hi] at hm
    rw [if_neg hi] at hr
    exact raw_lt hr (quarter_val (n := m) (by omega)).1 (fop_lt _ _ _)
theorem DC.add {i : Nat} {xs : List Nat} (h : DC i xs) {r : Nat} (hr : RDC i r) : DC i (xs ++ [r]) := by
  intro j hj
  rw [List.getD_eq_getElem?_getD]
  by_cases e : j < xs.length
  · rw [List.getElem?_append_left e, ← List.getD_eq_getElem?_getD]; exact h j e
  · have ej : j = xs.length := by simp at hj; omega
    subst ej
    rw [List.getElem?_append_right (Nat.le_refl _), Nat.sub_self]
    exact ⟨hr.lt, hr⟩
/-- The lists, at a stage. -/
def LI (t k : Nat) (L : Nat → List Nat) : Prop := ∀ i, i < 4 → (L i).length = (if i < t then k + 1 else k) ∧ DC i (L i)
theorem LI.step {t k : Nat} {L : Nat → List Nat} (h : LI t k L) (ht : t < 4) {r : Nat} (hr : RDC t r) : LI (t + 1) k (up L t (L t ++ [r])) := by
  intro i hi
  by_cases e : i = t
  · subst e
    rw [up_at]
    obtain ⟨h1, h2⟩ := h i hi
    rw [if_neg (by omega)] at h1
    exact ⟨by rw [if_pos (by omega)]; simp [h1], h2.add hr⟩
  · rw [up_ne _ e]
    obtain ⟨h1, h2⟩ := h i hi
    refine ⟨?_, h2⟩
    rw [h1]
    by_cases e2 : i < t
    · rw [if_pos e2, if_pos (by omega)]
    · rw [if_neg e2, if_neg (by omega)]
theorem LI.next {k : Nat} {L : Nat → List Nat} (h : LI 4 k L) : LI 0 (k + 1) L := fun i hi => by
  obtain ⟨h1, h2⟩ := h i hi
  exact ⟨by rw [h1, if_pos hi, if_neg (by omega)], h2⟩
theorem app_put4 {B S b i : Nat} {g : Option Nat} {xs : List Nat} {v v2 : Value} {u : World} (h : appP B S g xs v u) (hne : ∀ k, g = some k → k ≠ b) (hS : b < S) : appP B S g xs v (u.setCell ⟨b, i, none⟩ v2) := by
  have hg : u.grownBy (u.setCell ⟨b, i, none⟩ v2) (some b) := ⟨rfl, rfl, rfl, by simp, fun k _ hk => Below.heap_setCell _ _ _ _ (fun e => hk (by rw [e]))⟩
  refine ⟨h.1.kept hg ?_, h.2⟩
  cases hu : v.ownBlock with
  | none => exact .inl rfl
  | some k =>
    refine .inr fun e => ?_
    cases e
    rcases h.2 with h2 | h2
    · exact hne _ (by rw [← h2, hu]) rfl
    · have := h2 _ hu; omega
theorem named_wp {f : FuncId} {args : Array Value} {w : World} {Q : Ending → World → Prop} (h : ∀ W, W = w → Calls Try.prog f args W Q) : Calls Try.prog f args w Q := h w rfl
set_option maxHeartbeats 8000000 in
set_option maxRecDepth 100000 in
theorem l02DrawOk_any (sb K : Nat) (w : World) (h : SrcAt w sb K) (hK : K ≤ 700000) : Calls Try.prog 33 #[.pointer (some ⟨sb, 0, none⟩)] w (fun e w' => ∃ (n : Nat) (X : Nat → Value) (L : Nat → List Nat), e = .returned (.agg #[X 0, X 1, X 2, X 3]) ∧ (1 ≤ n ∧ n ≤ 6) ∧ LI 0 n L ∧ (∀ i, i < 4 → OF w.heap.size w' (X i) (L i)) ∧ (∀ i j, i < 4 → j < 4 → i ≠ j → (X i).ownBlock = none ∨ (X i).ownBlock ≠ (X j).ownBlock) ∧ Turn sb (sb + 1) w w') := by
  have HS := Lib.hid h
  have hlt := h.lt
  have HPK := Lib.hid (fun (K : Nat) (n : Int) w h hK hn => pick_any sb K n w h hK hn)
  clear h
  go_enter Try.func33, Try.ntmps33
  go_wp2_with (first | (with_reducible refine at_list ?_; refine wpList_wide_g rfl rfl Try.underlying28 Try.underlying39 rfl ?_; intro r n hr0; have hr := hr0 _ (by first | with_reducible assumption | exact rfl); clear hr0) | (with_reducible refine at_list ?_; refine wpList_wide rfl rfl rfl Try.underlying28 Try.underlying39 ?_; intro r n hr0; have hr := hr0 _ (by first | with_reducible assumption | exact rfl); clear hr0) | (go_at_call 34; refine stop_here ?_))
  unfold Stop
  refine named_wp ?_
  intro w1 hw1
  obtain ⟨wA, hwA⟩ : ∃ wA, wA = w.alloc (.cells #[.slice none 0 0, .slice none 0 0, .slice none 0 0, .slice none 0 0] 26) := ⟨_, rfl⟩
  have hzA : wA.heap.size = w.heap.size + 1 := by rw [hwA]; simp
  have HS1 : Hid (SrcAt w1 sb K) := by show SrcAt _ _ _; rw [hw1]; exact HS.out.later (B := w.heap.size) (by (repeat (first | (with_reducible exact Below.refl _ _) | (with_reducible assumption) | (with_reducible refine below_then ?_ (by assumption)) | (with_reducible refine Below.trans ?_ (by assumption)) | (with_reducible refine below_drewN ?_ _) | (with_reducible apply Below.drew) | (with_reducible refine below_alloc ?_ _) | refine Below.setCell ?_ (by first | (simp; done) | (simp; omega)) _))) hlt
  have HGA : Hid (Turn sb (sb + 1) w wA) := by show Turn _ _ _ _; rw [hwA]; exact Turn.below (by (repeat (first | (with_reducible exact Below.refl _ _) | (with_reducible assumption) | (with_reducible refine below_then ?_ (by assumption)) | (with_reducible refine Below.trans ?_ (by assumption)) | (with_reducible refine below_drewN ?_ _) | (with_reducible apply Below.drew) | (with_reducible refine below_alloc ?_ _) | refine Below.setCell ?_ (by first | (simp; done) | (simp; omega)) _)))
  have HG1 : Hid (Turn sb (sb + 1) wA w1) := by show Turn _ _ _ _; rw [hw1, hwA]; exact Turn.below (by (repeat (first | (with_reducible exact Below.refl _ _) | (with_reducible assumption) | (with_reducible refine below_then ?_ (by assumption)) | (with_reducible refine Below.trans ?_ (by assumption)) | (with_reducible refine below_drewN ?_ _) | (with_reducible apply Below.drew) | (with_reducible refine below_alloc ?_ _) | refine Below.setCell ?_ (by first | (simp; done) | (simp; omega)) _)))
  have HRA : Hid (owned wA w.heap.size [.slice none 0 0, .slice none 0 0, .slice none 0 0, .slice none 0 0]) := by
    show owned _ _ _
    rw [hwA]
    exact owned_alloc w [.slice none 0 0, .slice none 0 0, .slice none 0 0, .slice none 0 0] _
  have hz1 : w1.heap.size = w.heap.size + 1 + 1 := by rw [hw1]; simp
  have HR : Hid (owned w1 (w.heap.size + 1) [.slice none 0 0, .slice none 0 0, .slice none 0 0, .slice none 0 0]) := by
    show owned _ _ _
    rw [hw1]
    intro k x hx
    match k, hx with
    | 0, hx => obtain rfl : _ = x := by simpa using hx
               exact ⟨by go_simp, by go_simp⟩
    | 1, hx => obtain rfl : _ = x := by simpa using hx
               exact ⟨by go_simp, by go_simp⟩
    | 2, hx => obtain rfl : _ = x := by simpa using hx
               exact ⟨by go_simp, by go_simp⟩
    | 3, hx => obtain rfl : _ = x := by simpa using hx
               exact ⟨by go_simp, by go_simp⟩
    | k + 4, hx => simp at hx
  clear hw1 hwA
  obtain ⟨b2, hb2⟩ : ∃ b2, b2 = w.heap.size := ⟨_, rfl⟩
  obtain ⟨pb, hpb⟩ : ∃ pb, pb = w.heap.size + 1 := ⟨_, rfl⟩
  have hpb2 : pb = b2 + 1 := by omega
  have hzw : w1.heap.size = pb + 1 := by omega
  rw [← hpb] at HR hzA
  rw [← hb2] at HRA
  rw [← hpb, ← hb2]
  have hltb : sb < b2 := by omega
  have HB2 := Lib.hid hb2
  have HPB := Lib.hid hpb2
  have hbp : b2 < pb := by omega
  have hpw : pb < w1.heap.size := by omega
  have hzA2 : wA.heap.size ≤ pb := by omega
  have hzA3 : pb ≤ wA.heap.size := by omega
  clear hb2 hpb hz1 hpb2 hzw hzA
  refine (HPK.out K 6 _ HS1.out (by omega) (by omega)).mono ?_
  rintro e w2 ⟨r1, rfl, ⟨hr11, hr12⟩, hg2, hz2, hs2⟩
  have HD2 : Hid (RX4 pb sb (K + 2) wA pb (fun _ => .slice none 0 0) (fun _ => []) w2) :=
    (show RX4 pb sb K wA pb (fun _ => .slice none 0 0) (fun _ => []) w1 from ⟨⟨HS1.out, HG1.out, HR.out, Nat.le_refl _, by omega⟩, fun i hi => OF.nil0 _ _, fun i hi k hk => (by cases hk), fun i j _ _ _ => .inl rfl⟩).drawn (by omega) hg2 hs2
  clear hg2 hs2
  go_wp2_with (first | (with_reducible refine at_list ?_; refine wpList_wide_g rfl rfl Try.underlying28 Try.underlying39 rfl ?_; intro r n hr0; have hr := hr0 _ (by first | with_reducible assumption | exact rfl); clear hr0) | (with_reducible refine at_list ?_; refine wpList_wide rfl rfl rfl Try.underlying28 Try.underlying39 ?_; intro r n hr0; have hr := hr0 _ (by first | with_reducible assumption | exact rfl); clear hr0))
  refine wp_named ?_
  intro ws hws
  obtain ⟨N, hN⟩ : ∃ N : Nat, 1 + r1 = (N : Int) := Int.eq_ofNat_of_zero_le (by omega)
  simp only [hN] at hws ⊢
  have hNb : 1 ≤ N ∧ N ≤ 6 := by omega
  have HDs : Hid (RX4 pb sb (K + 2) wA pb (fun _ => .slice none 0 0) (fun _ => []) ws) := by show RX4 _ _ _ _ _ _ _ _; rw [hws]; exact HD2.out
  clear hws HD2 hN hr11 hr12
  go_loopw [4] (fun t wr => ∃ (k : Nat) (X : Nat → Value) (L : Nat → List Nat), k ≤ N ∧ t = .int .i64 ((N : Int) - k) ∧ Hid (LI 0 k L) ∧ Hid (RX4 pb sb (K + 2 + 8 * k) wA pb X L wr)) (fun t _ => (intOf t).toNat)
  case atStart => exact ⟨0, _, _, Nat.zero_le _, by simp, fun i hi => ⟨rfl, fun j hj => by simp at hj⟩, HDs.out⟩
  case round =>
    obtain ⟨k, X, L, hkN, rfl, HL, HX⟩ := hrel
    clear HDs
    have hn64 : IntKind.i64.wrap ((N : Int) - k - 1) = (N : Int) - k - 1 := i64_fit (by omega)
    obtain ⟨KK, hKK⟩ : ∃ q, K + 2 + 8 * k = q := ⟨_, rfl⟩
    rw [hKK] at HX
    have hK1 : KK ≤ 800000 := by omega
    by_cases hk : k < N
    · have hpos : (0 : Int) < (N : Int) - k := by omega
      have hsb : sb < pb := by omega
      have yy := (HX.out.d.2.2.1 0 _ rfl).1
      go_wp2_with (first | (with_reducible refine at_list ?_; refine wpList_wide_g rfl rfl Try.underlying28 Try.underlying39 rfl ?_; intro r n hr0; have hr := hr0 _ (by first | with_reducible assumption | exact rfl); clear hr0) | (with_reducible refine at_list ?_; refine wpList_wide rfl rfl rfl Try.underlying28 Try.underlying39 ?_; intro r n hr0; have hr := hr0 _ (by first | with_reducible assumption | exact rfl); clear hr0))
      have HNE := Lib.hid HX.out.ne
      have HAP := Lib.hid HX.out.ap
      have HBK := Lib.hid (fun i hi => (HX.out.o i hi).block)
      have hxl : (L 0).length < 1048576 := by have := (HL.out 0 (by decide)).1; (first | rw [if_pos (by decide)] at this | rw [if_neg (by decide)] at this); omega
      have hpbw : pb < wr.heap.size := HX.out.d.2.2.2.2
      (apply wp_region_planL (F := (fun u => u.cell? ⟨pb, 0, none⟩ = some (X 0))) (fun u => RX4 pb sb KK wA pb X L u ∧ wr.heap.size ≤ u.heap.size) (fun a c h hb => ⟨h.1.later hb, Nat.le_trans h.2 hb.size⟩); (case hW => exact (by exact ⟨HX.out, Nat.le_refl _⟩)); (case hF0 => exact (by (intro u hu; exact (hu.1.d.2.2.1 0 _ rfl).1))); ((apply wpG_det; (case hw => exact rfl); (case hs => (intro cs b h; cases h)); (case h1 => (intro w'; go_simp <;> exact rfl))); apply wpG_norm; (case ha => (simp only [Act.put, List.setIfInBounds_toArray, List.set_cons_zero, List.set_cons_succ]; exact rfl))); ((apply wpG_any; (case hw => exact rfl); (case h1 => (intro w' hb; go_simp <;> exact rfl))); apply wpG_norm; (case ha => (simp only [Act.put, List.setIfInBounds_toArray, List.set_cons_zero, List.set_cons_succ]; exact rfl))); ((apply wpG_det; (case hw => exact rfl); (case hs => (intro cs b h; cases h)); (case h1 => (intro w'; go_simp <;> exact rfl))); apply wpG_norm; (case ha => (simp only [Act.put, List.setIfInBounds_toArray, List.set_cons_zero, List.set_cons_succ]; exact rfl))); ((apply wpG_pickI (I' := fun u => RX4 pb sb (KK + 2) wA pb X L u ∧ wr.heap.size ≤ u.heap.size) (b := sb) (K := KK) (n := 8) (fun a c h hb => ⟨h.1.later hb, Nat.le_trans h.2 hb.size⟩) (by omega) (by omega); (case hw => exact rfl); (case he => (intro w'; go_simp <;> first | exact rfl | exact ⟨rfl, rfl⟩)); (case hs => (intro u hu; exact hu.1.d.1)); (case hd => (intro u u' hu hg hs; exact ⟨hu.1.drawn hsb hg hs, Nat.le_trans hu.2 hg.size⟩)); intro m hm1 hm2; have e5 : IntKind.i64.wrap (1 + m) = 1 + m := i64_fit (by omega)); apply wpG_norm; (case ha => (simp only [Act.put, List.setIfInBounds_toArray, List.set_cons_zero, List.set_cons_succ]; exact rfl))); ((apply wpG_det; (case hw => exact rfl); (case hs => (intro cs b h; cases h)); (case h1 => (intro w'; go_simp <;> exact rfl))); apply wpG_norm; (case ha => (simp only [Act.put, List.setIfInBounds_toArray, List.set_cons_zero, List.set_cons_succ]; exact rfl))); ((apply wpG_det; (case hw => exact rfl); (case hs => (intro cs b h; cases h)); (case h1 => (intro w'; go_simp <;> exact rfl))); apply wpG_norm; (case ha => (simp only [Act.put, List.setIfInBounds_toArray, List.set_cons_zero, List.set_cons_succ]; exact rfl))); ((apply wpG_fop rfl rfl rfl rfl rfl; intro r hr0; have hr := hr0 _ _ (by first | with_reducible assumption | exact rfl) (by first | with_reducible assumption | exact rfl); clear hr0); apply wpG_norm; (case ha => (simp only [Act.put, List.setIfInBounds_toArray, List.set_cons_zero, List.set_cons_succ]; exact rfl))); ((apply wpG_lit1 (B := wr.heap.size) (x := .float .f32 r); (case hx => (first | exact rfl | (simp [Op.operands]; exact rfl))); (case hw => exact rfl); (case hB => (intro u h; exact h.2)); (case h1 => (intro w'; go_simp <;> exact rfl)); intro bl); apply wpG_norm; (case ha => (simp only [Act.put, List.setIfInBounds_toArray, List.set_cons_zero, List.set_cons_succ]; exact rfl))); ((apply wpG_appD pb wr.heap.size (L 0) (RDC 0) r (fun u => RO4 pb sb (KK + 2) wA pb X L 0 u) (fun a c h hb => h.later hb) (v := X 0) (b := bl); (case ho => exact rfl); (case hs => exact rfl); (case hx => exact rfl); (case hw => exact rfl); (case hR => exact rdc0 (by decide) (by omega) hr); (case hk => (intro w' hi hd; exact ⟨⟨hi.1.o 0 (by decide), (hd.1.2 0 _ rfl).1⟩, Nat.le_trans (Nat.le_of_lt hpbw) hi.2, hi.2⟩)); (case hn => exact hxl); (case hI' => (intro a c hi hg; exact hi.1.app (by decide) hsb (by omega) hg)); intro q2 c2); apply wpG_norm; (case ha => (simp only [Act.put, List.setIfInBounds_toArray, List.set_cons_zero, List.set_cons_succ]; exact rfl))); ((apply wpG_det; (case hw => exact rfl); (case hs => (intro cs b h; cases h)); (case h1 => (intro w'; go_simp <;> exact rfl))); apply wpG_norm; (case ha => (simp only [Act.put, List.setIfInBounds_toArray, List.set_cons_zero, List.set_cons_succ]; exact rfl))); ((apply wpG_cellR (I' := RT4 pb sb (KK + 2) wA pb X L 0 wr.heap.size (RDC 0)) ⟨pb, 0, none⟩ (.slice q2 ((L 0).length + 1) c2) (fun a c h hb => RT4.later h hb); (case hw => exact rfl); (case h1 => (intro u hu; have y7 := (hu.1.2.2.1 0 _ rfl).1; have z7 := (hu.1.2.2.1 0 _ rfl).2; go_simp)); (case h2 => (intro u hu hd; obtain ⟨r9, h2, h3⟩ := hd.1; exact ⟨q2, c2, hu.put (by decide) hsb (by omega) (fun j h1 _ => HNE.out j h1) _, r9, h2, app_put4 h3 (HNE.out 0 (by decide)) hpbw⟩))); apply wpG_norm; (case ha => (simp only [Act.put, List.setIfInBounds_toArray, List.set_cons_zero, List.set_cons_succ]; exact rfl))); refine wpG_nil ?_; intro w' hi hkk)
      rotate_left
      case hFs => repeat' (first | exact trivial | (refine ⟨?_, ?_⟩) | (intro h; exact absurd (show (0 : Nat) = 3 from h.1) (by decide)) | (intro h; exact absurd (show (1 : Nat) = 3 from h.1) (by decide)) | (intro h; exact absurd (show (4 : Nat) = 3 from h.1) (by decide)) | (intro _ u hu; exact (hu.1.d.2.2.1 0 _ rfl).1) | (intro _ u hu; exact (hu.1.2.2.1 0 _ rfl).1) | (intro h; exact Bool.noConfusion (h.2.symm.trans (by kernel_rfl : _ = true))))
      all_goals (try (first | kernel_rfl | rfl))
      have HT := Lib.hid (RT4.all hi (by decide) HNE.out hpbw HAP.out (fun i hi k hk => (HBK.out i hi k hk).2))
      clear hi hkk yy
      obtain ⟨q2, c2, r9, hR9, hX9⟩ := HT.out
      have HL9 := Lib.hid (HL.out.step (by decide) hR9)
      have HX9 := Lib.hid hX9
      clear hX9 hR9 HT HX HL HNE HAP HBK hxl hpbw
      generalize up X 0 (.slice q2 (L 0 ++ [r9]).length c2) = X at HX9
      generalize up L 0 (L 0 ++ [r9]) = L at HX9 HL9
      rename Hid (RX4 _ _ _ _ _ _ _ _) => HX
      rename Hid (LI _ _ _) => HL
      rename World => wr
      have yy := (HX.out.d.2.2.1 1 _ rfl).1
      go_wp2_with (first | (with_reducible refine at_list ?_; refine wpList_wide_g rfl rfl Try.underlying28 Try.underlying39 rfl ?_; intro r n hr0; have hr := hr0 _ (by first | with_reducible assumption | exact rfl); clear hr0) | (with_reducible refine at_list ?_; refine wpList_wide rfl rfl rfl Try.underlying28 Try.underlying39 ?_; intro r n hr0; have hr := hr0 _ (by first | with_reducible assumption | exact rfl); clear hr0))
      have HNE := Lib.hid HX.out.ne
      have HAP := Lib.hid HX.out.ap
      have HBK := Lib.hid (fun i hi => (HX.out.o i hi).block)
      have hxl : (L 1).length < 1048576 := by have := (HL.out 1 (by decide)).1; (first | rw [if_pos (by decide)] at this | rw [if_neg (by decide)] at this); omega
      have hpbw : pb < wr.heap.size := HX.out.d.2.2.2.2
      (apply wp_region_planL (F := (fun u => u.cell? ⟨pb, 1, none⟩ = some (X 1))) (fun u => RX4 pb sb (KK + 2) wA pb X L u ∧ wr.heap.size ≤ u.heap.size) (fun a c h hb => ⟨h.1.later hb, Nat.le_trans h.2 hb.size⟩); (case hW => exact (by exact ⟨HX.out, Nat.le_refl _⟩)); (case hF0 => exact (by (intro u hu; exact (hu.1.d.2.2.1 1 _ rfl).1))); ((apply wpG_det; (case hw => exact rfl); (case hs => (intro cs b h; cases h)); (case h1 => (intro w'; go_simp <;> exact rfl))); apply wpG_norm; (case ha => (simp only [Act.put, List.setIfInBounds_toArray, List.set_cons_zero, List.set_cons_succ]; exact rfl))); ((apply wpG_any; (case hw => exact rfl); (case h1 => (intro w' hb; go_simp <;> exact rfl))); apply wpG_norm; (case ha => (simp only [Act.put, List.setIfInBounds_toArray, List.set_cons_zero, List.set_cons_succ]; exact rfl))); ((apply wpG_det; (case hw => exact rfl); (case hs => (intro cs b h; cases h)); (case h1 => (intro w'; go_simp <;> exact rfl))); apply wpG_norm; (case ha => (simp only [Act.put, List.setIfInBounds_toArray, List.set_cons_zero, List.set_cons_succ]; exact rfl))); ((apply wpG_pickI (I' := fun u => RX4 pb sb (KK + 4) wA pb X L u ∧ wr.heap.size ≤ u.heap.size) (b := sb) (K := (KK + 2)) (n := 8) (fun a c h hb => ⟨h.1.later hb, Nat.le_trans h.2 hb.size⟩) (by omega) (by omega); (case hw => exact rfl); (case he => (intro w'; go_simp <;> first | exact rfl | exact ⟨rfl, rfl⟩)); (case hs => (intro u hu; exact hu.1.d.1)); (case hd => (intro u u' hu hg hs; exact ⟨hu.1.drawn hsb hg hs, Nat.le_trans hu.2 hg.size⟩)); intro m hm1 hm2; have e5 : IntKind.i64.wrap (1 + m) = 1 + m := i64_fit (by omega)); apply wpG_norm; (case ha => (simp only [Act.put, List.setIfInBounds_toArray, List.set_cons_zero, List.set_cons_succ]; exact rfl))); ((apply wpG_det; (case hw => exact rfl); (case hs => (intro cs b h; cases h)); (case h1 => (intro w'; go_simp <;> exact rfl))); apply wpG_norm; (case ha => (simp only [Act.put, List.setIfInBounds_toArray, List.set_cons_zero, List.set_cons_succ]; exact rfl))); ((apply wpG_det; (case hw => exact rfl); (case hs => (intro cs b h; cases h)); (case h1 => (intro w'; go_simp <;> exact rfl))); apply wpG_norm; (case ha => (simp only [Act.put, List.setIfInBounds_toArray, List.set_cons_zero, List.set_cons_succ]; exact rfl))); ((apply wpG_fop rfl rfl rfl rfl rfl; intro r hr0; have hr := hr0 _ _ (by first | with_reducible assumption | exact rfl) (by first | with_reducible assumption | exact rfl); clear hr0); apply wpG_norm; (case ha => (simp only [Act.put, List.setIfInBounds_toArray, List.set_cons_zero, List.set_cons_succ]; exact rfl))); ((apply wpG_lit1 (B := wr.heap.size) (x := .float .f32 r); (case hx => (first | exact rfl | (simp [Op.operands]; exact rfl))); (case hw => exact rfl); (case hB => (intro u h; exact h.2)); (case h1 => (intro w'; go_simp <;> exact rfl)); intro bl); apply wpG_norm; (case ha => (simp only [Act.put, List.setIfInBounds_toArray, List.set_cons_zero, List.set_cons_succ]; exact rfl))); ((apply wpG_appD pb wr.heap.size (L 1) (RDC 1) r (fun u => RO4 pb sb (KK + 4) wA pb X L 1 u) (fun a c h hb => h.later hb) (v := X 1) (b := bl); (case ho => exact rfl); (case hs => exact rfl); (case hx => exact rfl); (case hw => exact rfl); (case hR => exact rdc0 (by decide) (by omega) hr); (case hk => (intro w' hi hd; exact ⟨⟨hi.1.o 1 (by decide), (hd.1.2 0 _ rfl).1⟩, Nat.le_trans (Nat.le_of_lt hpbw) hi.2, hi.2⟩)); (case hn => exact hxl); (case hI' => (intro a c hi hg; exact hi.1.app (by decide) hsb (by omega) hg)); intro q2 c2); apply wpG_norm; (case ha => (simp only [Act.put, List.setIfInBounds_toArray, List.set_cons_zero, List.set_cons_succ]; exact rfl))); ((apply wpG_det; (case hw => exact rfl); (case hs => (intro cs b h; cases h)); (case h1 => (intro w'; go_simp <;> exact rfl))); apply wpG_norm; (case ha => (simp only [Act.put, List.setIfInBounds_toArray, List.set_cons_zero, List.set_cons_succ]; exact rfl))); ((apply wpG_cellR (I' := RT4 pb sb (KK + 4) wA pb X L 1 wr.heap.size (RDC 1)) ⟨pb, 1, none⟩ (.slice q2 ((L 1).length + 1) c2) (fun a c h hb => RT4.later h hb); (case hw => exact rfl); (case h1 => (intro u hu; have y7 := (hu.1.2.2.1 1 _ rfl).1; have z7 := (hu.1.2.2.1 1 _ rfl).2; go_simp)); (case h2 => (intro u hu hd; obtain ⟨r9, h2, h3⟩ := hd.1; exact ⟨q2, c2, hu.put (by decide) hsb (by omega) (fun j h1 _ => HNE.out j h1) _, r9, h2, app_put4 h3 (HNE.out 1 (by decide)) hpbw⟩))); apply wpG_norm; (case ha => (simp only [Act.put, List.setIfInBounds_toArray, List.set_cons_zero, List.set_cons_succ]; exact rfl))); refine wpG_nil ?_; intro w' hi hkk)
      rotate_left
      case hFs => repeat' (first | exact trivial | (refine ⟨?_, ?_⟩) | (intro h; exact absurd (show (0 : Nat) = 3 from h.1) (by decide)) | (intro h; exact absurd (show (1 : Nat) = 3 from h.1) (by decide)) | (intro h; exact absurd (show (4 : Nat) = 3 from h.1) (by decide)) | (intro _ u hu; exact (hu.1.d.2.2.1 1 _ rfl).1) | (intro _ u hu; exact (hu.1.2.2.1 1 _ rfl).1) | (intro h; exact Bool.noConfusion (h.2.symm.trans (by kernel_rfl : _ = true))))
      all_goals (try (first | kernel_rfl | rfl))
      have HT := Lib.hid (RT4.all hi (by decide) HNE.out hpbw HAP.out (fun i hi k hk => (HBK.out i hi k hk).2))
      clear hi hkk yy
      obtain ⟨q2, c2, r9, hR9, hX9⟩ := HT.out
      have HL9 := Lib.hid (HL.out.step (by decide) hR9)
      have HX9 := Lib.hid hX9
      clear hX9 hR9 HT HX HL HNE HAP HBK hxl hpbw
      generalize up X 1 (.slice q2 (L 1 ++ [r9]).length c2) = X at HX9
      generalize up L 1 (L 1 ++ [r9]) = L at HX9 HL9
      rename Hid (RX4 _ _ _ _ _ _ _ _) => HX
      rename Hid (LI _ _ _) => HL
      rename World => wr
      have yy := (HX.out.d.2.2.1 2 _ rfl).1
      go_wp2_with (first | (with_reducible refine at_list ?_; refine wpList_wide_g rfl rfl Try.underlying28 Try.underlying39 rfl ?_; intro r n hr0; have hr := hr0 _ (by first | with_reducible assumption | exact rfl); clear hr0) | (with_reducible refine at_list ?_; refine wpList_wide rfl rfl rfl Try.underlying28 Try.underlying39 ?_; intro r n hr0; have hr := hr0 _ (by first | with_reducible assumption | exact rfl); clear hr0))
      have HNE := Lib.hid HX.out.ne
      have HAP := Lib.hid HX.out.ap
      have HBK := Lib.hid (fun i hi => (HX.out.o i hi).block)
      have hxl : (L 2).length < 1048576 := by have := (HL.out 2 (by decide)).1; (first | rw [if_pos (by decide)] at this | rw [if_neg (by decide)] at this); omega
      have hpbw : pb < wr.heap.size := HX.out.d.2.2.2.2
      (apply wp_region_planL (F := (fun u => u.cell? ⟨pb, 2, none⟩ = some (X 2))) (fun u => RX4 pb sb (KK + 4) wA pb X L u ∧ wr.heap.size ≤ u.heap.size) (fun a c h hb => ⟨h.1.later hb, Nat.le_trans h.2 hb.size⟩); (case hW => exact (by exact ⟨HX.out, Nat.le_refl _⟩)); (case hF0 => exact (by (intro u hu; exact (hu.1.d.2.2.1 2 _ rfl).1))); ((apply wpG_det; (case hw => exact rfl); (case hs => (intro cs b h; cases h)); (case h1 => (intro w'; go_simp <;> exact rfl))); apply wpG_norm; (case ha => (simp only [Act.put, List.setIfInBounds_toArray, List.set_cons_zero, List.set_cons_succ]; exact rfl))); ((apply wpG_any; (case hw => exact rfl); (case h1 => (intro w' hb; go_simp <;> exact rfl))); apply wpG_norm; (case ha => (simp only [Act.put, List.setIfInBounds_toArray, List.set_cons_zero, List.set_cons_succ]; exact rfl))); ((apply wpG_det; (case hw => exact rfl); (case hs => (intro cs b h; cases h)); (case h1 => (intro w'; go_simp <;> exact rfl))); apply wpG_norm; (case ha => (simp only [Act.put, List.setIfInBounds_toArray, List.set_cons_zero, List.set_cons_succ]; exact rfl))); ((apply wpG_pickI (I' := fun u => RX4 pb sb (KK + 6) wA pb X L u ∧ wr.heap.size ≤ u.heap.size) (b := sb) (K := (KK + 4)) (n := 8) (fun a c h hb => ⟨h.1.later hb, Nat.le_trans h.2 hb.size⟩) (by omega) (by omega); (case hw => exact rfl); (case he => (intro w'; go_simp <;> first | exact rfl | exact ⟨rfl, rfl⟩)); (case hs => (intro u hu; exact hu.1.d.1)); (case hd => (intro u u' hu hg hs; exact ⟨hu.1.drawn hsb hg hs, Nat.le_trans hu.2 hg.size⟩)); intro m hm1 hm2; have e5 : IntKind.i64.wrap (1 + m) = 1 + m := i64_fit (by omega)); apply wpG_norm; (case ha => (simp only [Act.put, List.setIfInBounds_toArray, List.set_cons_zero, List.set_cons_succ]; exact rfl))); ((apply wpG_det; (case hw => exact rfl); (case hs => (intro cs b h; cases h)); (case h1 => (intro w'; go_simp <;> exact rfl))); apply wpG_norm; (case ha => (simp only [Act.put, List.setIfInBounds_toArray, List.set_cons_zero, List.set_cons_succ]; exact rfl))); ((apply wpG_det; (case hw => exact rfl); (case hs => (intro cs b h; cases h)); (case h1 => (intro w'; go_simp <;> exact rfl))); apply wpG_norm; (case ha => (simp only [Act.put, List.setIfInBounds_toArray, List.set_cons_zero, List.set_cons_succ]; exact rfl))); ((apply wpG_fop rfl rfl rfl rfl rfl; intro r hr0; have hr := hr0 _ _ (by first | with_reducible assumption | exact rfl) (by first | with_reducible assumption | exact rfl); clear hr0); apply wpG_norm; (case ha => (simp only [Act.put, List.setIfInBounds_toArray, List.set_cons_zero, List.set_cons_succ]; exact rfl))); ((apply wpG_lit1 (B := wr.heap.size) (x := .float .f32 r); (case hx => (first | exact rfl | (simp [Op.operands]; exact rfl))); (case hw => exact rfl); (case hB => (intro u h; exact h.2)); (case h1 => (intro w'; go_simp <;> exact rfl)); intro bl); apply wpG_norm; (case ha => (simp only [Act.put, List.setIfInBounds_toArray, List.set_cons_zero, List.set_cons_succ]; exact rfl))); ((apply wpG_appD pb wr.heap.size (L 2) (RDC 2) r (fun u => RO4 pb sb (KK + 6) wA pb X L 2 u) (fun a c h hb => h.later hb) (v := X 2) (b := bl); (case ho => exact rfl); (case hs => exact rfl); (case hx => exact rfl); (case hw => exact rfl); (case hR => exact rdc0 (by decide) (by omega) hr); (case hk => (intro w' hi hd; exact ⟨⟨hi.1.o 2 (by decide), (hd.1.2 0 _ rfl).1⟩, Nat.le_trans (Nat.le_of_lt hpbw) hi.2, hi.2⟩)); (case hn => exact hxl); (case hI' => (intro a c hi hg; exact hi.1.app (by decide) hsb (by omega) hg)); intro q2 c2); apply wpG_norm; (case ha => (simp only [Act.put, List.setIfInBounds_toArray, List.set_cons_zero, List.set_cons_succ]; exact rfl))); ((apply wpG_det; (case hw => exact rfl); (case hs => (intro cs b h; cases h)); (case h1 => (intro w'; go_simp <;> exact rfl))); apply wpG_norm; (case ha => (simp only [Act.put, List.setIfInBounds_toArray, List.set_cons_zero, List.set_cons_succ]; exact rfl))); ((apply wpG_cellR (I' := RT4 pb sb (KK + 6) wA pb X L 2 wr.heap.size (RDC 2)) ⟨pb, 2, none⟩ (.slice q2 ((L 2).length + 1) c2) (fun a c h hb => RT4.later h hb); (case hw => exact rfl); (case h1 => (intro u hu; have y7 := (hu.1.2.2.1 2 _ rfl).1; have z7 := (hu.1.2.2.1 2 _ rfl).2; go_simp)); (case h2 => (intro u hu hd; obtain ⟨r9, h2, h3⟩ := hd.1; exact ⟨q2, c2, hu.put (by decide) hsb (by omega) (fun j h1 _ => HNE.out j h1) _, r9, h2, app_put4 h3 (HNE.out 2 (by decide)) hpbw⟩))); apply wpG_norm; (case ha => (simp only [Act.put, List.setIfInBounds_toArray, List.set_cons_zero, List.set_cons_succ]; exact rfl))); refine wpG_nil ?_; intro w' hi hkk)
      rotate_left
      case hFs => repeat' (first | exact trivial | (refine ⟨?_, ?_⟩) | (intro h; exact absurd (show (0 : Nat) = 3 from h.1) (by decide)) | (intro h; exact absurd (show (1 : Nat) = 3 from h.1) (by decide)) | (intro h; exact absurd (show (4 : Nat) = 3 from h.1) (by decide)) | (intro _ u hu; exact (hu.1.d.2.2.1 2 _ rfl).1) | (intro _ u hu; exact (hu.1.2.2.1 2 _ rfl).1) | (intro h; exact Bool.noConfusion (h.2.symm.trans (by kernel_rfl : _ = true))))
      all_goals (try (first | kernel_rfl | rfl))
      have HT := Lib.hid (RT4.all hi (by decide) HNE.out hpbw HAP.out (fun i hi k hk => (HBK.out i hi k hk).2))
      clear hi hkk yy
      obtain ⟨q2, c2, r9, hR9, hX9⟩ := HT.out
      have HL9 := Lib.hid (HL.out.step (by decide) hR9)
      have HX9 := Lib.hid hX9
      clear hX9 hR9 HT HX HL HNE HAP HBK hxl hpbw
      generalize up X 2 (.slice q2 (L 2 ++ [r9]).length c2) = X at HX9
      generalize up L 2 (L 2 ++ [r9]) = L at HX9 HL9
      rename Hid (RX4 _ _ _ _ _ _ _ _) => HX
      rename Hid (LI _ _ _) => HL
      rename World => wr
      have yy := (HX.out.d.2.2.1 3 _ rfl).1
      go_wp2_with (first | (with_reducible refine at_list ?_; refine wpList_wide_g rfl rfl Try.underlying28 Try.underlying39 rfl ?_; intro r n hr0; have hr := hr0 _ (by first | with_reducible assumption | exact rfl); clear hr0) | (with_reducible refine at_list ?_; refine wpList_wide rfl rfl rfl Try.underlying28 Try.underlying39 ?_; intro r n hr0; have hr := hr0 _ (by first | with_reducible assumption | exact rfl); clear hr0))
      have HNE := Lib.hid HX.out.ne
      have HAP := Lib.hid HX.out.ap
      have HBK := Lib.hid (fun i hi => (HX.out.o i hi).block)
      have hxl : (L 3).length < 1048576 := by have := (HL.out 3 (by decide)).1; (first | rw [if_pos (by decide)] at this | rw [if_neg (by decide)] at this); omega
      have hpbw : pb < wr.heap.size := HX.out.d.2.2.2.2
      (apply wp_region_planL (F := (fun u => u.cell? ⟨pb, 3, none⟩ = some (X 3))) (fun u => RX4 pb sb (KK + 6) wA pb X L u ∧ wr.heap.size ≤ u.heap.size) (fun a c h hb => ⟨h.1.later hb, Nat.le_trans h.2 hb.size⟩); (case hW => exact (by exact ⟨HX.out, Nat.le_refl _⟩)); (case hF0 => exact (by (intro u hu; exact (hu.1.d.2.2.1 3 _ rfl).1))); ((apply wpG_det; (case hw => exact rfl); (case hs => (intro cs b h; cases h)); (case h1 => (intro w'; go_simp <;> exact rfl))); apply wpG_norm; (case ha => (simp only [Act.put, List.setIfInBounds_toArray, List.set_cons_zero, List.set_cons_succ]; exact rfl))); ((apply wpG_any; (case hw => exact rfl); (case h1 => (intro w' hb; go_simp <;> exact rfl))); apply wpG_norm; (case ha => (simp only [Act.put, List.setIfInBounds_toArray, List.set_cons_zero, List.set_cons_succ]; exact rfl))); ((apply wpG_det; (case hw => exact rfl); (case hs => (intro cs b h; cases h)); (case h1 => (intro w'; go_simp <;> exact rfl))); apply wpG_norm; (case ha => (simp only [Act.put, List.setIfInBounds_toArray, List.set_cons_zero, List.set_cons_succ]; exact rfl))); ((apply wpG_pickI (I' := fun u => RX4 pb sb (KK + 8) wA pb X L u ∧ wr.heap.size ≤ u.heap.size) (b := sb) (K := (KK + 6)) (n := 33) (fun a c h hb => ⟨h.1.later hb, Nat.le_trans h.2 hb.size⟩) (by omega) (by omega); (case hw => exact rfl); (case he => (intro w'; go_simp <;> first | exact rfl | exact ⟨rfl, rfl⟩)); (case hs => (intro u hu; exact hu.1.d.1)); (case hd => (intro u u' hu hg hs; exact ⟨hu.1.drawn hsb hg hs, Nat.le_trans hu.2 hg.size⟩)); intro m hm1 hm2; have e5 : IntKind.i64.wrap (m - 16) = m - 16 := i64_fit (by omega)); apply wpG_norm; (case ha => (simp only [Act.put, List.setIfInBounds_toArray, List.set_cons_zero, List.set_cons_succ]; exact rfl))); ((apply wpG_det; (case hw => exact rfl); (case hs => (intro cs b h; cases h)); (case h1 => (intro w'; go_simp <;> exact rfl))); apply wpG_norm; (case ha => (simp only [Act.put, List.setIfInBounds_toArray, List.set_cons_zero, List.set_cons_succ]; exact rfl))); ((apply wpG_det; (case hw => exact rfl); (case hs => (intro cs b h; cases h)); (case h1 => (intro w'; go_simp <;> exact rfl))); apply wpG_norm; (case ha => (simp only [Act.put, List.setIfInBounds_toArray, List.set_cons_zero, List.set_cons_succ]; exact rfl))); ((apply wpG_fop rfl rfl rfl rfl rfl; intro r hr0; have hr := hr0 _ _ (by first | with_reducible assumption | exact rfl) (by first | with_reducible assumption | exact rfl); clear hr0); apply wpG_norm; (case ha => (simp only [Act.put, List.setIfInBounds_toArray, List.set_cons_zero, List.set_cons_succ]; exact rfl))); ((apply wpG_lit1 (B := wr.heap.size) (x := .float .f32 r); (case hx => (first | exact rfl | (simp [Op.operands]; exact rfl))); (case hw => exact rfl); (case hB => (intro u h; exact h.2)); (case h1 => (intro w'; go_simp <;> exact rfl)); intro bl); apply wpG_norm; (case ha => (simp only [Act.put, List.setIfInBounds_toArray, List.set_cons_zero, List.set_cons_succ]; exact rfl))); ((apply wpG_appD pb wr.heap.size (L 3) (RDC 3) r (fun u => RO4 pb sb (KK + 8) wA pb X L 3 u) (fun a c h hb => h.later hb) (v := X 3) (b := bl); (case ho => exact rfl); (case hs => exact rfl); (case hx => exact rfl); (case hw => exact rfl); (case hR => exact rdc3 (by omega) hr); (case hk => (intro w' hi hd; exact ⟨⟨hi.1.o 3 (by decide), (hd.1.2 0 _ rfl).1⟩, Nat.le_trans (Nat.le_of_lt hpbw) hi.2, hi.2⟩)); (case hn => exact hxl); (case hI' => (intro a c hi hg; exact hi.1.app (by decide) hsb (by omega) hg)); intro q2 c2); apply wpG_norm; (case ha => (simp only [Act.put, List.setIfInBounds_toArray, List.set_cons_zero, List.set_cons_succ]; exact rfl))); ((apply wpG_det; (case hw => exact rfl); (case hs => (intro cs b h; cases h)); (case h1 => (intro w'; go_simp <;> exact rfl))); apply wpG_norm; (case ha => (simp only [Act.put, List.setIfInBounds_toArray, List.set_cons_zero, List.set_cons_succ]; exact rfl))); ((apply wpG_cellR (I' := RT4 pb sb (KK + 8) wA pb X L 3 wr.heap.size (RDC 3)) ⟨pb, 3, none⟩ (.slice q2 ((L 3).length + 1) c2) (fun a c h hb => RT4.later h hb); (case hw => exact rfl); (case h1 => (intro u hu; have y7 := (hu.1.2.2.1 3 _ rfl).1; have z7 := (hu.1.2.2.1 3 _ rfl).2; go_simp)); (case h2 => (intro u hu hd; obtain ⟨r9, h2, h3⟩ := hd.1; exact ⟨q2, c2, hu.put (by decide) hsb (by omega) (fun j h1 _ => HNE.out j h1) _, r9, h2, app_put4 h3 (HNE.out 3 (by decide)) hpbw⟩))); apply wpG_norm; (case ha => (simp only [Act.put, List.setIfInBounds_toArray, List.set_cons_zero, List.set_cons_succ]; exact rfl))); refine wpG_nil ?_; intro w' hi hkk)
      rotate_left
      case hFs => repeat' (first | exact trivial | (refine ⟨?_, ?_⟩) | (intro h; exact absurd (show (0 : Nat) = 3 from h.1) (by decide)) | (intro h; exact absurd (show (1 : Nat) = 3 from h.1) (by decide)) | (intro h; exact absurd (show (4 : Nat) = 3 from h.1) (by decide)) | (intro _ u hu; exact (hu.1.d.2.2.1 3 _ rfl).1) | (intro _ u hu; exact (hu.1.2.2.1 3 _ rfl).1) | (intro h; exact Bool.noConfusion (h.2.symm.trans (by kernel_rfl : _ = true))))
      all_goals (try (first | kernel_rfl | rfl))
      have HT := Lib.hid (RT4.all hi (by decide) HNE.out hpbw HAP.out (fun i hi k hk => (HBK.out i hi k hk).2))
      clear hi hkk yy
      obtain ⟨q2, c2, r9, hR9, hX9⟩ := HT.out
      have HL9 := Lib.hid (HL.out.step (by decide) hR9)
      have HX9 := Lib.hid hX9
      clear hX9 hR9 HT HX HL HNE HAP HBK hxl hpbw
      generalize up X 3 (.slice q2 (L 3 ++ [r9]).length c2) = X at HX9
      generalize up L 3 (L 3 ++ [r9]) = L at HX9 HL9
      rename Hid (RX4 _ _ _ _ _ _ _ _) => HX
      rename Hid (LI _ _ _) => HL
      rename World => wr
      have HX9 : Hid (RX4 pb sb (K + 2 + 8 * (k + 1)) wA pb X L wr) := by
        have e9 : KK + 8 = K + 2 + 8 * (k + 1) := by omega
        show RX4 _ _ _ _ _ _ _ _
        rw [← e9]; exact HX.out
      have HL9 : Hid (LI 0 (k + 1) L) := HL.out.next
      go_wp2_with (first | (with_reducible refine at_list ?_; refine wpList_wide_g rfl rfl Try.underlying28 Try.underlying39 rfl ?_; intro r n hr0; have hr := hr0 _ (by first | with_reducible assumption | exact rfl); clear hr0) | (with_reducible refine at_list ?_; refine wpList_wide rfl rfl rfl Try.underlying28 Try.underlying39 ?_; intro r n hr0; have hr := hr0 _ (by first | with_reducible assumption | exact rfl); clear hr0))
      go_roundw
      case rel => exact ⟨k + 1, X, L, by omega, by go_num, HL9.out, HX9.out⟩
      case measure => simp [intOf]; omega
    · have hke : k = N := by omega
      subst hke
      have hpos2 : ¬ (0 : Int) < (k : Int) - k := by omega
      have HXw := HX.out.d.2.1
      have o := HX.out.d.2.2.1
      obtain ⟨a0, z0⟩ := o 0 _ rfl
      obtain ⟨a1, z1⟩ := o 1 _ rfl
      obtain ⟨a2, z2⟩ := o 2 _ rfl
      obtain ⟨a3, z3⟩ := o 3 _ rfl
      have hbl : wr.heap[b2]? = wA.heap[b2]? := HXw.block b2 (by omega) (.inr (by omega))
      obtain ⟨q0, f0⟩ := HRA.out 0 _ rfl
      obtain ⟨q1, f1⟩ := HRA.out 1 _ rfl
      obtain ⟨q2, f2⟩ := HRA.out 2 _ rfl
      obtain ⟨q3, f3⟩ := HRA.out 3 _ rfl
      replace q0 := (World.cell?_of_block (a := ⟨b2, 0, none⟩) hbl).trans q0
      replace q1 := (World.cell?_of_block (a := ⟨b2, 1, none⟩) hbl).trans q1
      replace q2 := (World.cell?_of_block (a := ⟨b2, 2, none⟩) hbl).trans q2
      replace q3 := (World.cell?_of_block (a := ⟨b2, 3, none⟩) hbl).trans q3
      replace f0 := (World.frozen?_of_block (a := ⟨b2, 0, none⟩) hbl).trans f0
      replace f1 := (World.frozen?_of_block (a := ⟨b2, 1, none⟩) hbl).trans f1
      replace f2 := (World.frozen?_of_block (a := ⟨b2, 2, none⟩) hbl).trans f2
      replace f3 := (World.frozen?_of_block (a := ⟨b2, 3, none⟩) hbl).trans f3
      have hne2 : pb ≠ b2 := by omega
      have HTW : Hid (Turn sb (sb + 1) w wr) := HGA.out.trans HXw
      have hbw : b2 < wr.heap.size := by have := HXw.size; omega
      have HSH : Hid (∀ i, i < 4 → ∃ q c, X i = .slice q (L i).length c) := fun i hi => (HX.out.o i hi).shape
      have HO := Lib.hid HX.out.o
      have HA := Lib.hid HX.out.ap
      obtain ⟨p0, c0, g0⟩ := HSH.out 0 (by decide)
      obtain ⟨p1, c1, g1⟩ := HSH.out 1 (by decide)
      obtain ⟨p2, c2, g2⟩ := HSH.out 2 (by decide)
      obtain ⟨p3, c3, g3⟩ := HSH.out 3 (by decide)
      have G := Lib.hid (And.intro g0 (And.intro g1 (And.intro g2 g3)))
      rw [g0] at a0
      rw [g1] at a1
      rw [g2] at a2
      rw [g3] at a3
      clear o hbl HXw g0 g1 g2 g3 HX
      go_wp2_with (first | (with_reducible refine at_list ?_; refine wpList_wide_g rfl rfl Try.underlying28 Try.underlying39 rfl ?_; intro r n hr0; have hr := hr0 _ (by first | with_reducible assumption | exact rfl); clear hr0) | (with_reducible refine at_list ?_; refine wpList_wide rfl rfl rfl Try.underlying28 Try.underlying39 ?_; intro r n hr0; have hr := hr0 _ (by first | with_reducible assumption | exact rfl); clear hr0))
      refine bodyPost_ret (v := .agg #[.slice p0 (L 0).length c0, .slice p1 (L 1).length c1, .slice p2 (L 2).length c2, .slice p3 (L 3).length c3]) (by simp [results, Try.results33, go_sem, *]) rfl ?_
      have hg : w.heap.size ≤ b2 := by have := HB2.out; omega
      have hb2 := HB2.out
      refine ⟨k, X, ?_, hNb, L, HL.out, fun i hi => ?_, HA.out, ?_⟩
      · rw [G.out.1, G.out.2.1, G.out.2.2.1, G.out.2.2.2]
      · exact (((((HO.out i hi).setC (a := ⟨b2, 0, none⟩) (by show b2 < _; omega) _).setC (a := ⟨b2, 1, none⟩) (by show b2 < _; omega) _).setC (a := ⟨b2, 2, none⟩) (by show b2 < _; omega) _).setC (a := ⟨b2, 3, none⟩) (by show b2 < _; omega) _).base (by omega)
      · exact ((((HTW.out.set (ad := ⟨b2, 0, none⟩) hg _).set (ad := ⟨b2, 1, none⟩) hg _).set (ad := ⟨b2, 2, none⟩) hg _).set (ad := ⟨b2, 3, none⟩) hg _)
end Go.Proofs.Ytpnkapdemgieaaa
set_option linter.unusedSimpArgs false
set_option linter.unusedVariables false
set_option linter.unusedSectionVars false
namespace Go.Proofs.Ytpnkapdemgieaaa
open Go Go.RowKit
open Go.ChangeShapes Go.WideShapes Go.ChangeAt Go.RowKit Go.Joins
theorem RDC.q {i x : Nat} (hi : i ≠ 3) (h : RDC i x) : ∃ m : Int, V .f32 (cn .f32 x) ((m : Rat) / 4) ∧ 1 ≤ m ∧ m ≤ 8 := by
  obtain ⟨m, hm, hr⟩ := h
  rw [if_neg hi, if_neg hi] at hm
  rw [if_neg hi] at hr
  exact ⟨m, by rw [hr]; exact quarter_val (by omega), hm⟩
theorem RDC.h {x : Nat} (h : RDC 3 x) : ∃ m : Int, V .f32 (cn .f32 x) ((m : Rat) / 2) ∧ -16 ≤ m ∧ m ≤ 16 := by
  obtain ⟨m, hm, hr⟩ := h
  rw [if_pos rfl, if_pos rfl] at hm
  rw [if_pos rfl] at hr
  exact ⟨m, by rw [hr]; exact half_val (by omega), hm⟩
theorem LI.wr {n : Nat} {L : Nat → List Nat} (h : LI 0 n L) (hn : 1 ≤ n ∧ n ≤ 6) : ∃ A B C T : Nat → Int, WR ⟨L 0, L 1, L 2, L 3⟩ n A B C T := by
  have hl : ∀ i, i < 4 → (L i).length = n := fun i hi => by have := (h i hi).1; rwa [if_neg (by omega)] at this
  have q : ∀ i, i < 3 → ∀ j, ∃ m : Int, j < n → V .f32 (cn .f32 ((L i).getD j 0)) ((m : Rat) / 4) ∧ 1 ≤ m ∧ m ≤ 8 := fun i hi j => by
    by_cases hj : j < n
    · obtain ⟨m, hm⟩ := ((h i (by omega)).2 j (by rw [hl i (by omega)]; exact hj)).2.q (by omega)
      exact ⟨m, fun _ => hm⟩
    · exact ⟨0, fun e => absurd e hj⟩
  have t : ∀ j, ∃ m : Int, j < n → V .f32 (cn .f32 ((L 3).getD j 0)) ((m : Rat) / 2) ∧ -16 ≤ m ∧ m ≤ 16 := fun j => by
    by_cases hj : j < n
    · obtain ⟨m, hm⟩ := ((h 3 (by omega)).2 j (by rw [hl 3 (by omega)]; exact hj)).2.h
      exact ⟨m, fun _ => hm⟩
    · exact ⟨0, fun e => absurd e hj⟩
  exact ⟨fun j => (q 0 (by omega) j).choose, fun j => (q 1 (by omega) j).choose, fun j => (q 2 (by omega) j).choose, fun j => (t j).choose, ⟨hn.1, by omega⟩, hl 0 (by omega), hl 1 (by omega), hl 2 (by omega), hl 3 (by omega), fun j hj => (q 0 (by omega) j).choose_spec hj, fun j hj => (q 1 (by omega) j).choose_spec hj, fun j hj => (q 2 (by omega) j).choose_spec hj, fun j hj => (t j).choose_spec hj⟩
theorem LI.lt {n : Nat} {L : Nat → List Nat} (h : LI 0 n L) {i : Nat} (hi : i < 4) (j : Nat) : (L i).getD j 0 < 4294967296 := by
  by_cases e : j < (L i).length
  · exact ((h i hi).2 j e).1
  · rw [List.getD_eq_getElem?_getD, List.getElem?_eq_none (by omega)]; decide
set_option maxHeartbeats 4000000 in
theorem R8Rod_any (p : Option Addr) (n c : Nat) (w : World) (h : BY w.heap.size w p n c) (hn : n ≤ 1048576) : Calls Try.prog 7 #[.slice p n c] w (fun e w' => ∃ (N : Nat) (L : Nat → List Nat) (m : RL), e = .returned (.agg #[.slice m.p1 (L 0).length m.c1, .slice m.p2 (L 1).length m.c2, .slice m.p3 (L 2).length m.c3, .slice m.p4 (L 3).length m.c4]) ∧ (1 ≤ N ∧ N ≤ 6) ∧ LI 0 N L ∧ (Rd.mk (L 0) (L 1) (L 2) (L 3)).fs w' m ∧ Below w.heap.size w w') := by
  have H := Lib.hid h
  have HN := Lib.hid hn
  clear h hn
  go_enter Try.func7, Try.ntmps7
  go_wp2_with (first | (with_reducible refine at_list ?_; refine wpList_wide_g rfl rfl Try.underlying28 Try.underlying39 rfl ?_; intro r n hr0; have hr := hr0 _ (by first | with_reducible assumption | exact rfl); clear hr0) | (with_reducible refine at_list ?_; refine wpList_wide rfl rfl rfl Try.underlying28 Try.underlying39 ?_; intro r n hr0; have hr := hr0 _ (by first | with_reducible assumption | exact rfl); clear hr0) | (go_at_call 32; refine (l00From_any _ _ _ _ ((H.out.later (C := w.heap.size) (by (repeat (first | (with_reducible exact Below.refl _ _) | (with_reducible assumption) | (with_reducible refine below_then ?_ (by assumption)) | (with_reducible refine Below.trans ?_ (by assumption)) | (with_reducible refine below_drewN ?_ _) | (with_reducible apply Below.drew) | (with_reducible refine below_alloc ?_ _) | refine Below.setCell ?_ (by first | (simp; done) | (simp; omega)) _))) (Nat.le_refl _)).mono (by first | omega | (simp; done) | (simp; omega))) HN.out).mono ?_; rintro e w' ⟨rfl, hb, hs⟩; (try simp only [World.size_alloc] at hs); have HS := Lib.hid hs; clear hs; obtain ⟨hT, hk⟩ := bv_next hb (by (repeat (with_reducible first | assumption | apply Trk.alloc | apply Trk.setCell | apply Trk.drewN | apply Trk.drew | exact Trk.nil _))); simp only [SameOn, World.size_alloc, World.size_setCell, World.size_drew, size_drewN', and_true] at hk; have hsz := Below.size hb; (try simp only [World.size_alloc, World.size_setCell, World.size_drew, size_drewN'] at hsz)) | (go_at_call 33; refine stop_here ?_))
  unfold Stop
  refine (l02DrawOk_any (w.heap.size + 1) 0 _ HS.out (by omega)).mono ?_
  rintro e w2 ⟨N, X, L, rfl, hNb, hL, hO, hA, hg⟩
  have hbs : w.heap.size < w'.heap.size := by omega
  have HL := Lib.hid hL
  have HO : Hid (∀ i, i < 4 → OF (w.heap.size + 1) w2 (X i) (L i)) := fun i hi => (hO i hi).base (show w.heap.size + 1 ≤ w'.heap.size by omega)
  have HSH : Hid (∀ i, i < 4 → ∃ q c, X i = .slice q (L i).length c) := fun i hi => (hO i hi).shape
  obtain ⟨p0, c0, g0⟩ := HSH.out 0 (by decide)
  obtain ⟨p1, c1, g1⟩ := HSH.out 1 (by decide)
  obtain ⟨p2, c2, g2⟩ := HSH.out 2 (by decide)
  obtain ⟨p3, c3, g3⟩ := HSH.out 3 (by decide)
  have O0 := Lib.hid (g0 ▸ HO.out 0 (by decide))
  have O1 := Lib.hid (g1 ▸ HO.out 1 (by decide))
  have O2 := Lib.hid (g2 ▸ HO.out 2 (by decide))
  have O3 := Lib.hid (g3 ▸ HO.out 3 (by decide))
  rw [g0, g1, g2, g3]
  clear HO HSH g0 g1 g2 g3 hO hA hL
  have hB : Below w.heap.size w w2 := (show Below w.heap.size w w' by (repeat (first | (with_reducible exact Below.refl _ _) | (with_reducible assumption) | (with_reducible refine below_then ?_ (by assumption)) | (with_reducible refine Below.trans ?_ (by assumption)) | (with_reducible refine below_drewN ?_ _) | (with_reducible apply Below.drew) | (with_reducible refine below_alloc ?_ _) | refine Below.setCell ?_ (by first | (simp; done) | (simp; omega)) _))).trans ⟨hg.os, hg.tape, hg.output, hg.size, fun k hk' => hg.block k (by omega) (.inl (by omega))⟩
  obtain ⟨hT2, hk2⟩ := turn_track hg (L := [w.heap.size]) (fun x hx => by simp at hx; omega) (by simp)
  simp only [SameOn, and_true] at hk2
  have hz2 := hg.size
  clear hg hb hT hT2
  go_wp2_with (first | (with_reducible refine at_list ?_; refine wpList_wide_g rfl rfl Try.underlying28 Try.underlying39 rfl ?_; intro r n hr0; have hr := hr0 _ (by first | with_reducible assumption | exact rfl); clear hr0) | (with_reducible refine at_list ?_; refine wpList_wide rfl rfl rfl Try.underlying28 Try.underlying39 ?_; intro r n hr0; have hr := hr0 _ (by first | with_reducible assumption | exact rfl); clear hr0))
  refine bodyPost_ret (v := .agg #[.slice p0 (L 0).length c0, .slice p1 (L 1).length c1, .slice p2 (L 2).length c2, .slice p3 (L 3).length c3]) (by simp [results, Try.results7, go_sem, *]) rfl ?_
  have key : ∀ {v : Value} {xs : List Nat}, OF (w.heap.size + 1) w2 v xs → ∀ x0 x1 x2 x3 : Value, FS ((((w2.setCell ⟨w.heap.size, 0, none⟩ x0).setCell ⟨w.heap.size, 1, none⟩ x1).setCell ⟨w.heap.size, 2, none⟩ x2).setCell ⟨w.heap.size, 3, none⟩ x3) v xs := fun h x0 x1 x2 x3 => OF.fs ((((h.setC (a := ⟨w.heap.size, 0, none⟩) (Nat.lt_succ_self _) _).setC (a := ⟨w.heap.size, 1, none⟩) (Nat.lt_succ_self _) _).setC (a := ⟨w.heap.size, 2, none⟩) (Nat.lt_succ_self _) _).setC (a := ⟨w.heap.size, 3, none⟩) (Nat.lt_succ_self _) _)
  exact ⟨N, L, ⟨p0, c0, p1, c1, p2, c2, p3, c3⟩, rfl, hNb, HL.out, ⟨key O0.out _ _ _ _, key O1.out _ _ _ _, key O2.out _ _ _ _, key O3.out _ _ _ _⟩, by (repeat (first | (with_reducible exact Below.refl _ _) | (with_reducible assumption) | (with_reducible refine below_then ?_ (by assumption)) | (with_reducible refine Below.trans ?_ (by assumption)) | (with_reducible refine below_drewN ?_ _) | (with_reducible apply Below.drew) | (with_reducible refine below_alloc ?_ _) | refine Below.setCell ?_ (by first | (simp; done) | (simp; omega)) _))⟩
end Go.Proofs.Ytpnkapdemgieaaa
set_option linter.unusedSimpArgs false
set_option linter.unusedVariables false
set_option linter.unusedSectionVars false
namespace Go.Proofs.Ytpnkapdemgieaaa
open Go Go.RowKit
open Go.ChangeShapes Go.WideShapes Go.ChangeAt Go.RowKit Go.Joins
section
variable {H : Type} {enc : TypeId × Value → H} {P : Program} {w : World} {base : Nat} {spare : Nat → Bool} {held : Bool}
theorem open_u8s {t e : TypeId} {fuel : Nat} {cs : List Value} {x : DataW H × List MemPlace} (ht : P.underlying t = some (.slice e)) (he : P.underlying e = some (.int .u8)) (hc : P.cellsOf e = 1)
    (h : DataW.trod enc P w base spare held fuel t cs = some x) : ∃ p n c, cs = [.slice p n c] ∧ BY w.heap.size w p n c := by
  rcases Deep.open_slice1 ht hc h with ⟨rfl, _⟩ | ⟨a, len, cap, m, n, V, D, Pl, rfl, _, hl, hm, hmm, _, hx⟩
  · exact ⟨none, 0, 0, rfl, ⟨by omega, by omega⟩, fun i hi => absurd hi (by omega)⟩
  · have hlm : len ≤ m := by rw [hmm]; split <;> omega
    refine ⟨some a, len, cap, rfl, ⟨hl, by simpa [maxLen] using hm⟩, fun i hi => ?_⟩
    have h0 : a.spot = none := by
      have := spot_none (hx 0 (by omega)).1
      simpa [Addr.add] using this
    obtain ⟨b, o, sp⟩ := a
    have h0 : sp = none := h0
    subst h0
    obtain ⟨y, e1, _, e2⟩ := DataW.trod_int he (hx i (by omega)).2
    simp only [List.cons.injEq, and_true] at e1
    have h1 := (hx i (by omega)).1
    have e3 : (⟨b, o, none⟩ : Addr).add i = ⟨b, o + i, none⟩ := by
      unfold Addr.add
      split
      · rename_i h; subst h; rfl
      · rfl
    rw [e3, e1] at h1
    have hb := World.block_lt_of_cell? _ _ h1
    have hw : 0 ≤ y ∧ y ≤ 255 := by simpa [Lit.wf, IntKind.min, IntKind.max, IntKind.signed, IntKind.bits] using e2
    exact ⟨b, o, y, rfl, hb, h1, hw⟩
end
set_option maxRecDepth 100000 in
theorem Try.cellsU8 : Try.prog.cellsOf 5 = 1 := by kernel_rfl
set_option maxRecDepth 100000 in
theorem open_By {H : Type} {enc : TypeId × Value → H} {w : World} {base : Nat} {spare : Nat → Bool} {held : Bool} {r : Reach} {b0 : Nat} {v : Value} {d : DataW H} {p : List MemPlace} (hv : Value.okWide Try.prog w r b0 22 v) (h : DataW.Trod enc Try.prog w base spare held 22 v d p) :
    ∃ p n c, v = .slice p n c ∧ BY w.heap.size w p n c := by
  obtain ⟨fuel, hf⟩ := h
  obtain ⟨q, n, c, e, h1⟩ := open_u8s Try.underlying22 Try.underlying5 Try.cellsU8 hf
  obtain ⟨a, l, cc, rfl⟩ := okWide_slice Try.underlying22 hv
  simp [Value.cells] at e
  obtain ⟨rfl, rfl, rfl⟩ := e
  exact ⟨_, _, _, rfl, h1⟩
end Go.Proofs.Ytpnkapdemgieaaa
set_option linter.unusedSimpArgs false
set_option linter.unusedVariables false
set_option linter.unusedSectionVars false
namespace Go.Proofs.Ytpnkapdemgieaaa
open Go Go.RowKit
open Go.ChangeShapes Go.WideShapes Go.ChangeAt Go.RowKit Go.Joins
theorem r8Long_any (p q : Option Addr) (n c m d : Nat) (w : World) : Calls Try.prog 6 #[.slice p n c, .slice q m d] w (RB w (decide (48 < n) || decide (48 < m))) := by
  by_cases h1 : 48 < n <;> by_cases h2 : 48 < m
  all_goals
    go_enter Try.func6, Try.ntmps6
    go_wp2_with (first | (with_reducible refine at_list ?_; refine wpList_fop rfl rfl rfl rfl rfl ?_; intro r n hr0; have hr := hr0 _ _ (by first | with_reducible assumption | exact rfl) (by first | with_reducible assumption | exact rfl); clear hr0) | (with_reducible refine at_list ?_; refine wpList_neg rfl rfl rfl ?_; intro r hr0; have hr := hr0 _ (by first | with_reducible assumption | exact rfl); clear hr0) | (with_reducible refine at_list ?_; refine wpList_fop_g rfl rfl rfl rfl rfl ?_; intro r n hr0; have hr := hr0 _ _ (by first | with_reducible assumption | exact rfl) (by first | with_reducible assumption | exact rfl); clear hr0) | (with_reducible refine at_list ?_; refine wpList_wide_g rfl rfl Try.underlying28 Try.underlying39 rfl ?_; intro r n hr0; have hr := hr0 _ (by first | with_reducible assumption | exact rfl); clear hr0) | (with_reducible refine at_list ?_; refine wpList_wide rfl rfl rfl Try.underlying28 Try.underlying39 ?_; intro r n hr0; have hr := hr0 _ (by first | with_reducible assumption | exact rfl); clear hr0))
    all_goals
      go_ret
      exact ⟨by first | (simp [h1, h2]; done) | (simp [h1, h2]; omega), by first | exact ⟨_, rfl⟩ | exact ⟨0, rfl⟩⟩
/-- A number below a bound. -/
def RN8 (w : World) (lo hi : Int) (e : Ending) (w' : World) : Prop := ∃ r, e = .returned (.int .i64 r) ∧ (lo ≤ r ∧ r ≤ hi) ∧ ∃ m, w' = w.drewN m
set_option maxHeartbeats 2000000 in
theorem r8At_any (p : Option Addr) (n c i : Nat) (k : Int) (w : World) (h : BY w.heap.size w p n c) (hi : i ≤ 1000) (hk : 1 ≤ k ∧ k ≤ 1000000) : Calls Try.prog 9 #[.slice p n c, .int .i64 i, .int .i64 k] w (RN8 w 0 (k - 1)) := by
  obtain ⟨⟨hc1, hc2⟩, hv⟩ := h
  have HV := Lib.hid hv
  clear hv
  obtain ⟨hk1, hk2⟩ := hk
  by_cases h1 : k ≤ 1
  · go_enter Try.func9, Try.ntmps9
    go_wp2_with (first | (with_reducible refine at_list ?_; refine wpList_fop rfl rfl rfl rfl rfl ?_; intro r n hr0; have hr := hr0 _ _ (by first | with_reducible assumption | exact rfl) (by first | with_reducible assumption | exact rfl); clear hr0) | (with_reducible refine at_list ?_; refine wpList_neg rfl rfl rfl ?_; intro r hr0; have hr := hr0 _ (by first | with_reducible assumption | exact rfl); clear hr0) | (with_reducible refine at_list ?_; refine wpList_fop_g rfl rfl rfl rfl rfl ?_; intro r n hr0; have hr := hr0 _ _ (by first | with_reducible assumption | exact rfl) (by first | with_reducible assumption | exact rfl); clear hr0) | (with_reducible refine at_list ?_; refine wpList_wide_g rfl rfl Try.underlying28 Try.underlying39 rfl ?_; intro r n hr0; have hr := hr0 _ (by first | with_reducible assumption | exact rfl); clear hr0) | (with_reducible refine at_list ?_; refine wpList_wide rfl rfl rfl Try.underlying28 Try.underlying39 ?_; intro r n hr0; have hr := hr0 _ (by first | with_reducible assumption | exact rfl); clear hr0))
    all_goals
      go_ret
      exact ⟨0, rfl, ⟨by omega, by omega⟩, by first | exact ⟨_, rfl⟩ | exact ⟨0, rfl⟩⟩
  by_cases hlt : i < n
  · obtain ⟨bb, o, x, rfl, hbb, hx, hx0, hx1⟩ := HV.out i hlt
    obtain ⟨g1, g2⟩ := rem_bd (x := x) (n := k) hx0 hk1
    go_enter Try.func9, Try.ntmps9
    go_wp2_with (first | (with_reducible refine at_list ?_; refine wpList_fop rfl rfl rfl rfl rfl ?_; intro r n hr0; have hr := hr0 _ _ (by first | with_reducible assumption | exact rfl) (by first | with_reducible assumption | exact rfl); clear hr0) | (with_reducible refine at_list ?_; refine wpList_neg rfl rfl rfl ?_; intro r hr0; have hr := hr0 _ (by first | with_reducible assumption | exact rfl); clear hr0) | (with_reducible refine at_list ?_; refine wpList_fop_g rfl rfl rfl rfl rfl ?_; intro r n hr0; have hr := hr0 _ _ (by first | with_reducible assumption | exact rfl) (by first | with_reducible assumption | exact rfl); clear hr0) | (with_reducible refine at_list ?_; refine wpList_wide_g rfl rfl Try.underlying28 Try.underlying39 rfl ?_; intro r n hr0; have hr := hr0 _ (by first | with_reducible assumption | exact rfl); clear hr0) | (with_reducible refine at_list ?_; refine wpList_wide rfl rfl rfl Try.underlying28 Try.underlying39 ?_; intro r n hr0; have hr := hr0 _ (by first | with_reducible assumption | exact rfl); clear hr0))
    all_goals
      go_ret
      exact ⟨_, rfl, ⟨by go_num, by go_num⟩, by first | exact ⟨_, rfl⟩ | exact ⟨0, rfl⟩⟩
  · obtain ⟨g1, g2⟩ := rem_bd (x := (i : Int) * 37 + 11) (n := k) (by omega) hk1
    go_enter Try.func9, Try.ntmps9
    go_wp2_with (first | (with_reducible refine at_list ?_; refine wpList_fop rfl rfl rfl rfl rfl ?_; intro r n hr0; have hr := hr0 _ _ (by first | with_reducible assumption | exact rfl) (by first | with_reducible assumption | exact rfl); clear hr0) | (with_reducible refine at_list ?_; refine wpList_neg rfl rfl rfl ?_; intro r hr0; have hr := hr0 _ (by first | with_reducible assumption | exact rfl); clear hr0) | (with_reducible refine at_list ?_; refine wpList_fop_g rfl rfl rfl rfl rfl ?_; intro r n hr0; have hr := hr0 _ _ (by first | with_reducible assumption | exact rfl) (by first | with_reducible assumption | exact rfl); clear hr0) | (with_reducible refine at_list ?_; refine wpList_wide_g rfl rfl Try.underlying28 Try.underlying39 rfl ?_; intro r n hr0; have hr := hr0 _ (by first | with_reducible assumption | exact rfl); clear hr0) | (with_reducible refine at_list ?_; refine wpList_wide rfl rfl rfl Try.underlying28 Try.underlying39 ?_; intro r n hr0; have hr := hr0 _ (by first | with_reducible assumption | exact rfl); clear hr0))
    all_goals
      go_ret
      exact ⟨_, rfl, ⟨by go_num, by go_num⟩, by first | exact ⟨_, rfl⟩ | exact ⟨0, rfl⟩⟩
end Go.Proofs.Ytpnkapdemgieaaa
set_option linter.unusedSimpArgs false
set_option linter.unusedVariables false
set_option linter.unusedSectionVars false
namespace Go.Proofs.Ytpnkapdemgieaaa
open Go Go.RowKit
open Go.ChangeShapes Go.WideShapes Go.ChangeAt Go.RowKit Go.Joins
theorem rc_rod (p : Option Addr) (n c : Nat) (w : World) (h : BY w.heap.size w p n c) (hn : n ≤ 1048576) : Calls Try.prog 7 #[.slice p n c] w (fun e w' => ∃ (N : Nat) (P : Rd) (m : RL) (A B C T : Nat → Int), e = .returned (.agg #[.slice m.p1 N m.c1, .slice m.p2 N m.c2, .slice m.p3 N m.c3, .slice m.p4 N m.c4]) ∧ (1 ≤ N ∧ N ≤ 6) ∧ WR P N A B C T ∧ P.wf ∧ Rdn P m N w' ∧ Below w.heap.size w w') := by
  refine (R8Rod_any p n c w h hn).mono ?_
  rintro e w' ⟨N, L, m, rfl, hN, hL, hf, hb⟩
  obtain ⟨A, B, C, T, hw⟩ := hL.wr hN
  have q : Rdn ⟨L 0, L 1, L 2, L 3⟩ m N w' := ⟨⟨hw.la, hw.lb, hw.lc, hw.ld⟩, hf⟩
  refine ⟨N, ⟨L 0, L 1, L 2, L 3⟩, m, A, B, C, T, ?_, hN, hw, ⟨fun j => hL.lt (by decide) j, fun j => hL.lt (by decide) j, fun j => hL.lt (by decide) j, fun j => hL.lt (by decide) j⟩, q, hb⟩
  have := q.val
  unfold rnV at this
  rw [← this]
section
variable {P : Rd} {n : Nat} {A B C T : Nat → Int}
theorem rc_heat (h : WR P n A B C T) {m : RL} {w : World} (hs : Rdn P m n w) : Calls Try.prog 18 #[.agg #[.slice m.p1 n m.c1, .slice m.p2 n m.c2, .slice m.p3 n m.c3, .slice m.p4 n m.c4]] w (BFB w .f32 (heatK P n) true) := by
  have := rk_heat h m w hs.2
  rwa [hs.val] at this
theorem rc_heat2 {R : Rd} {m : RL} {w : World} (hs : Rdn R m n w) (ok : R.ok = true) (hf : fnt .f32 (heatK R n) = true) : Calls Try.prog 18 #[.agg #[.slice m.p1 n m.c1, .slice m.p2 n m.c2, .slice m.p3 n m.c3, .slice m.p4 n m.c4]] w (BFB w .f32 (heatK R n) true) := by
  have q := implHeatOf_any R m w hs.2
  obtain ⟨e1, e2⟩ := gBF_yes (c := heatK R R.a.length) ok (by rw [hs.1.1]; exact hf)
  rw [e1, e2, hs.val, hs.1.1] at q
  exact q
theorem rc_mean (h : WR P n A B C T) {m : RL} {w : World} (hs : Rdn P m n w) : Calls Try.prog 19 #[.agg #[.slice m.p1 n m.c1, .slice m.p2 n m.c2, .slice m.p3 n m.c3, .slice m.p4 n m.c4]] w (BFB w .f32 (meanQ P) true) := by
  have := rk_mean h m w hs.2
  rwa [hs.val] at this
theorem rc_hind (h : WR P n A B C T) {m : RL} {w : World} (hs : Rdn P m n w) : Calls Try.prog 25 #[.agg #[.slice m.p1 n m.c1, .slice m.p2 n m.c2, .slice m.p3 n m.c3, .slice m.p4 n m.c4]] w (BFB w .f32 (hindK P n) true) := by
  have := rk_hind h m w hs.2
  rwa [hs.val] at this
theorem rc_long (h : WR P n A B C T) {m : RL} {w : World} (hs : Rdn P m n w) : Calls Try.prog 26 #[.agg #[.slice m.p1 n m.c1, .slice m.p2 n m.c2, .slice m.p3 n m.c3, .slice m.p4 n m.c4]] w (BFB w .f32 (accC id P.a) true) := by
  have := rk_long h m w hs.2
  rwa [hs.val] at this
/-- A rod, five heats, and that all is valid. -/
def BR5 (w : World) (H : Nat → Nat) (n : Nat) (e : Ending) (w' : World) : Prop := ∃ (m : RL) (q : Option Addr) (c : Nat) (ys : List Nat), e = .returned (.tuple #[.agg #[.slice m.p1 n m.c1, .slice m.p2 n m.c2, .slice m.p3 n m.c3, .slice m.p4 n m.c4], .slice q 5 c, .bool true]) ∧ Below w.heap.size w w' ∧ Lst (.slice q 5 c) ys w' ∧ ys.length = 5 ∧ ∀ k, k < 5 → cn .f32 (ys.getD k 0) = H (k + 1)
theorem rc_run (h : WR P n A B C T) (h6 : n ≤ 6) {m : RL} {w : World} (hs : Rdn P m n w) : Calls Try.prog 20 #[.agg #[.slice m.p1 n m.c1, .slice m.p2 n m.c2, .slice m.p3 n m.c3, .slice m.p4 n m.c4], .agg #[.int .i64 shE.k, .float .f32 shE.t, .float .f32 shE.e], .agg #[.int .i64 shE.k, .float .f32 shE.t, .float .f32 shE.e], .float .f32 1048576000, .int .i64 5, .bool true] w (BR5 w (fun k => htV (runR true shE shE 1048576000 P k)) n) := by
  have q := rk_run h h6 m w hs.2
  rw [hs.val] at q
  refine q.mono ?_
  rintro e w' ⟨m', q', c, ys, rfl, hb, hX, hO, hy, _⟩
  have hE := shE_ge 8 (by decide)
  have R := ((h.dr h6).g.run ⟨by grind, by grind⟩ hE hE rfl rfl V0 V0 5 (by decide)).1
  have g : Rdn (runR true shE shE 1048576000 P 5) m' n w' := ⟨⟨R.la, R.lb, R.lc, R.ld⟩, hX.fs⟩
  have hl : ys.length = 5 := by
    have := congrArg List.length hy
    rwa [List.length_map, runL_len] at this
  refine ⟨m', q', c, ys, ?_, hb, ?_, hl, fun k hk => ?_⟩
  · rw [g.val, hl]; rfl
  · have := OF.fs hO
    rw [hl] at this
    exact this
  · rw [getD_map hy (by omega), runL, List.getD_eq_getElem?_getD, List.getElem?_map, List.getElem?_range hk]; rfl
theorem rc_step (h : WR P n A B C T) (h6 : n ≤ 6) {m : RL} {w : World} (hs : Rdn P m n w) : Calls Try.prog 15 #[.agg #[.slice m.p1 n m.c1, .slice m.p2 n m.c2, .slice m.p3 n m.c3, .slice m.p4 n m.c4], .agg #[.int .i64 shE.k, .float .f32 shE.t, .float .f32 shE.e], .agg #[.int .i64 shE.k, .float .f32 shE.t, .float .f32 shE.e], .float .f32 1015021568] w (BRN w (stepR P shE shE 1015021568) n) := by
  have q := rk_step h h6 m w hs.2
  rw [hs.val] at q
  refine q.mono fun e w' b => b.n ⟨h.la, h.lb, h.lc, ?_⟩
  show (stepL _ _ _ _).length = _
  rw [stepL_len, h.ld]
theorem rc_join (h : WR P n A B C T) (h6 : n ≤ 6) {m m2 : RL} {w : World} (hs : Rdn P m n w) (ht : Rdn (bkR P) m2 n w) : Calls Try.prog 24 #[.agg #[.slice m.p1 n m.c1, .slice m.p2 n m.c2, .slice m.p3 n m.c3, .slice m.p4 n m.c4], .agg #[.slice m2.p1 n m2.c1, .slice m2.p2 n m2.c2, .slice m2.p3 n m2.c3, .slice m2.p4 n m2.c4]] w (BRN w (joinR P (bkR P)) (n + n)) := by
  have q := rk_join h h6 m m2 w hs.2 ht.2
  rw [hs.val, ht.val] at q
  have t := h.tw h6
  exact q.mono fun e w' b => b.n ⟨t.la, t.lb, t.lc, t.ld⟩
theorem rc_back (h : WR P n A B C T) {m : RL} {w : World} (hs : Rdn P m n w) : Calls Try.prog 23 #[.agg #[.slice m.p1 n m.c1, .slice m.p2 n m.c2, .slice m.p3 n m.c3, .slice m.p4 n m.c4]] w (BRN w (bkR P) n) := by
  have q := implBack_yes P m w hs.2 h.ok
  rw [hs.val] at q
  exact q.mono fun e w' b => b.n ⟨by simp [bkR, h.la], by simp [bkR, h.lb], by simp [bkR, h.lc], by simp [bkR, h.ld]⟩
theorem rc_again (h : WR (bkR P) n A B C T) {m : RL} {w : World} (hs : Rdn (bkR P) m n w) : Calls Try.prog 23 #[.agg #[.slice m.p1 n m.c1, .slice m.p2 n m.c2, .slice m.p3 n m.c3, .slice m.p4 n m.c4]] w (BRN w P n) := by
  have q := rc_back h hs
  rwa [bkR_bkR] at q
theorem rc_same (hw : P.wf) {m m2 : RL} {w : World} (hs : Rdn P m n w) (ht : Rdn P m2 n w) : Calls Try.prog 22 #[.agg #[.slice m.p1 n m.c1, .slice m.p2 n m.c2, .slice m.p3 n m.c3, .slice m.p4 n m.c4], .agg #[.slice m2.p1 n m2.c1, .slice m2.p2 n m2.c2, .slice m2.p3 n m2.c3, .slice m2.p4 n m2.c4]] w (BV w (.bool true)) := by
  have q := implSameRod_yes P P m m2 w hs.2 ht.2 hw hw (eqL_self _) (eqL_self _) (eqL_self _) (eqL_self _)
  rwa [hs.val, ht.val] at q
end
section
variable {P : Rd} {n x : Nat} {A B C T Cc : Nat → Int} {k t : Int} {M : Rat}
/-- The even rod. -/
def evR (P : Rd) (n x : Nat) : Rd := ⟨P.a, P.b, P.c, List.replicate n x⟩
theorem wm_word {x : Nat} {t : Int} (ht : -16 ≤ t ∧ t ≤ 16) (hx : cn .f32 x = wmW t) : x < 4294967296 := raw_lt hx (wmW_v ht).1 (fop_lt _ _ _)
theorem rc_set (h : WR P n A B C T) (he : EV (evR P n x) n A Cc ⟨k, x, 1065353216⟩ ⟨k, x, 1065353216⟩ t M) {m : RL} {q : Option Addr} {c : Nat} {w : World} (hs : Rdn P m n w) (hv : Lst (.slice q n c) (List.replicate n x) w) : Calls Try.prog 21 #[.agg #[.slice m.p1 n m.c1, .slice m.p2 n m.c2, .slice m.p3 n m.c3, .slice m.p4 n m.c4], .slice q n c] w (BRN w (evR P n x) n) := by
  have g := rk_set h he m (.slice q n c) w hs.2 hv
  rw [hs.val] at g
  exact g.mono fun e w' b => b.n ⟨h.la, h.lb, h.lc, List.length_replicate⟩
theorem rc_even (he : EV (evR P n x) n A Cc ⟨k, x, 1065353216⟩ ⟨k, x, 1065353216⟩ t M) {m : RL} {w : World} (hs : Rdn (evR P n x) m n w) : Calls Try.prog 15 #[.agg #[.slice m.p1 n m.c1, .slice m.p2 n m.c2, .slice m.p3 n m.c3, .slice m.p4 n m.c4], .agg #[.int .i64 k, .float .f32 x, .float .f32 1065353216], .agg #[.int .i64 k, .float .f32 x, .float .f32 1065353216], .float .f32 1048576000] w (BRN w (stepR (evR P n x) ⟨k, x, 1065353216⟩ ⟨k, x, 1065353216⟩ 1048576000) n) := by
  have q := rk_even he m w hs.2
  rw [hs.val] at q
  have g := he.step.2.1
  exact q.mono fun e w' b => b.n ⟨g.la, g.lb, g.lc, g.ld⟩
theorem rc_held (he : EV (evR P n x) n A Cc ⟨k, x, 1065353216⟩ ⟨k, x, 1065353216⟩ t M) {m : RL} {w : World} (hs : Rdn (evR P n x) m n w) : Calls Try.prog 12 #[.agg #[.slice m.p1 n m.c1, .slice m.p2 n m.c2, .slice m.p3 n m.c3, .slice m.p4 n m.c4], .agg #[.int .i64 k, .float .f32 x, .float .f32 1065353216], .agg #[.int .i64 k, .float .f32 x, .float .f32 1065353216], .float .f32 1048576000] w (BRN w (rwsR (evR P n x) ⟨k, x, 1065353216⟩ ⟨k, x, 1065353216⟩ 1048576000) n) := by
  have q := rk_held he m w hs.2
  rw [hs.val] at q
  have g := he.held.2.1
  exact q.mono fun e w' b => b.n ⟨g.la, g.lb, g.lc, g.ld⟩
theorem rc_flows (he : EV (evR P n x) n A Cc ⟨k, x, 1065353216⟩ ⟨k, x, 1065353216⟩ t M) {m : RL} {w : World} (hs : Rdn (evR P n x) m n w) : Calls Try.prog 11 #[.agg #[.slice m.p1 n m.c1, .slice m.p2 n m.c2, .slice m.p3 n m.c3, .slice m.p4 n m.c4], .agg #[.int .i64 k, .float .f32 x, .float .f32 1065353216], .agg #[.int .i64 k, .float .f32 x, .float .f32 1065353216]] w (fun e w' => ∃ (q : Option Addr) (c : Nat) (ys : List Nat), e = .returned (.tuple #[.slice q (n + 1) c, .bool true]) ∧ Below w.heap.size w w' ∧ Lst (.slice q (n + 1) c) ys w' ∧ ys.length = n + 1 ∧ ∀ i, i < n → feq .f32 (cn .f32 (ys.getD i 0)) (cn .f32 0) = true) := by
  have q := rk_flows he m w hs.2
  rw [hs.val] at q
  refine q.mono ?_
  rintro e w' ⟨u, ys, rfl, hb, hO, hy⟩
  have hl : ys.length = n + 1 := by
    have := congrArg List.length hy
    rwa [List.length_map, flowR_len, hs.1.1] at this
  obtain ⟨q', c, rfl⟩ := OF.shape hO
  refine ⟨q', c, ys, by rw [hl], hb, ?_, hl, fun i hi => ?_⟩
  · have := OF.fs hO
    rw [hl] at this
    exact this
  · rw [getD_map hy (by omega)]
    exact he.none (by omega)
theorem rc_kept (he : EV (evR P n x) n A Cc ⟨k, x, 1065353216⟩ ⟨k, x, 1065353216⟩ t M) (hw : P.wf) {m m2 : RL} {w : World} (hs : Rdn (stepR (evR P n x) ⟨k, x, 1065353216⟩ ⟨k, x, 1065353216⟩ 1048576000) m n w) (ht : Rdn (evR P n x) m2 n w) : Calls Try.prog 22 #[.agg #[.slice m.p1 n m.c1, .slice m.p2 n m.c2, .slice m.p3 n m.c3, .slice m.p4 n m.c4], .agg #[.slice m2.p1 n m2.c1, .slice m2.p2 n m2.c2, .slice m2.p3 n m2.c3, .slice m2.p4 n m2.c4]] w (BV w (.bool true)) := by
  obtain ⟨_, g, hc⟩ := he.step
  have hx : x < 4294967296 := wm_word he.ht he.e
  have hd : (stepR (evR P n x) ⟨k, x, 1065353216⟩ ⟨k, x, 1065353216⟩ 1048576000).d.length = n := g.ld
  have q := implSameRod_yes (stepR (evR P n x) ⟨k, x, 1065353216⟩ ⟨k, x, 1065353216⟩ 1048576000) (evR P n x) m m2 w hs.2 ht.2 ⟨hw.1, hw.2.1, hw.2.2.1, fun j => by
      by_cases hj : j < n
      · exact raw_lt (hc j hj) (wmW_v he.ht).1 (fop_lt _ _ _)
      · rw [List.getD_eq_getElem?_getD, List.getElem?_eq_none (by omega)]; decide⟩ ⟨hw.1, hw.2.1, hw.2.2.1, fun j => by
      by_cases hj : j < n
      · show (List.replicate n x).getD j 0 < _
        rw [List.getD_eq_getElem?_getD, List.getElem?_replicate, if_pos hj]; exact hx
      · show (List.replicate n x).getD j 0 < _
        rw [List.getD_eq_getElem?_getD, List.getElem?_replicate, if_neg hj]; decide⟩ (eqL_self _) (eqL_self _) (eqL_self _) (eqL_of (by rw [hd]; exact (List.length_replicate).symm) fun j hj => by
      rw [hd] at hj
      rw [hc j hj]
      exact (he.d j hj).symm)
  rwa [hs.val, ht.val] at q
end
theorem rc_gap {X Y : Nat} (x y : Nat) (w : World) (hx : cn .f64 x = X) (hy : cn .f64 y = Y) (h : gapOk X Y) : Calls Try.prog 13 #[.float .f64 x, .float .f64 y] w (RF w .f64 (gap8 X Y)) := by
  have := r8Gap_any x y w (by rw [hx, hy]; exact h)
  rwa [hx, hy] at this
end Go.Proofs.Ytpnkapdemgieaaa
