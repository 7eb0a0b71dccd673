/-
  Rows of the call's own, with the blocks between which they lie; what a call leaves that writes into some of these blocks. No condition; nothing of the program is named here.
-/
import Derived.Test.YtiodpahbmoeiaaaMark
set_option linter.unusedSimpArgs false
set_option linter.unusedVariables false
set_option linter.unusedSectionVars false
namespace Go.Proofs.Ytiodpahbmoeiaaa
open Go Go.RowKit
/-- Only blocks from B on and ahead of S have turned; none is new. -/
structure Turn (B S : Nat) (w w' : World) : Prop where
  os : w'.os = w.os
  tape : w'.tape = w.tape
  output : w'.output = w.output
  size : w.heap.size ≤ w'.heap.size
  block : ∀ k, k < w.heap.size → k < B ∨ S ≤ k → w'.heap[k]? = w.heap[k]?
theorem Turn.refl (B S : Nat) (w : World) : Turn B S w w := ⟨rfl, rfl, rfl, Nat.le_refl _, fun _ _ _ => rfl⟩
theorem Turn.trans {B S : Nat} {a b c : World} (h : Turn B S a b) (h' : Turn B S b c) : Turn B S a c :=
  ⟨h'.os.trans h.os, h'.tape.trans h.tape, h'.output.trans h.output, Nat.le_trans h.size h'.size, fun k hk hr => (h'.block k (Nat.lt_of_lt_of_le hk h.size) hr).trans (h.block k hk hr)⟩
theorem Turn.draws {B S : Nat} {a b : World} (h : Turn B S a b) (n : Nat) : Turn B S a (b.drewN n) := ⟨h.os, h.tape, h.output, h.size, h.block⟩
theorem Turn.of {B S : Nat} {w w' : World} {u : Value} (hg : w.grownBy w' u.ownBlock) (h : ∀ k, u.ownBlock = some k → B ≤ k ∧ k < S) : Turn B S w w' :=
  ⟨hg.os, hg.tape, hg.output, hg.size, fun k hk hr => hg.block k hk fun e => by have := h k e.symm; omega⟩
theorem Turn.below {B S : Nat} {a b : World} (h : Below a.heap.size a b) : Turn B S a b := ⟨h.os, h.tape, h.output, h.size, fun k hk _ => h.block k hk⟩
theorem Turn.alloc {B S : Nat} {a b : World} (h : Turn B S a b) (o : Obj) : Turn B S a (b.alloc o) := h.trans (Turn.below ((Below.refl _ _).alloc (Nat.le_refl _) o))
theorem turn_track {B S : Nat} {w w' : World} (hg : Turn B S w w') : ∀ {L : List Nat}, Trk w L → (∀ b ∈ L, b < B ∨ S ≤ b) → Trk w' L ∧ SameOn w w' L
  | [], _, _ => ⟨Trk.nil _, trivial⟩
  | b :: L, h, hL => by
    have h0 : b < w.heap.size := h b (by simp)
    have h1 := hg.size
    obtain ⟨i1, i2⟩ := turn_track hg (L := L) (fun c hc => h c (by simp [hc])) (fun c hc => hL c (by simp [hc]))
    have hb := hL b (by simp)
    exact ⟨i1.more (by omega), ⟨⟨by omega, by omega, by omega, fun k => by omega, fun k => by omega⟩, fun o => World.cell?_of_block (hg.block b h0 hb), fun o => World.frozen?_of_block (hg.block b h0 hb)⟩, i2⟩
theorem turn_below {n B S : Nat} {w w' : World} (hg : Turn B S w w') (hn : n ≤ B) (hw : n ≤ w.heap.size) : Below n w w' :=
  ⟨hg.os, hg.tape, hg.output, hg.size, fun k hk => hg.block k (by omega) (.inl (by omega))⟩
/-- A row of the call's own, of n cells of a type, in a block from B on and ahead of S. -/
def RX (t : TypeId) (B S : Nat) (w : World) (u : Value) (n : Nat) (vs : List Value) : Prop := w.ownsRow B t 1 u n vs ∧ ∀ k, u.ownBlock = some k → k < S
section
variable {t : TypeId} {B S : Nat} {w w' : World} {u : Value} {n : Nat} {vs : List Value}
theorem RX.of (h : w.ownsRow B t 1 u n vs) : RX t B w.heap.size w u n vs := ⟨h, fun k hk => (World.ownsRow.lt h k hk).2⟩
theorem RX.lt (h : RX t B S w u n vs) : ∀ k, u.ownBlock = some k → B ≤ k ∧ k < S := fun k hk => ⟨(World.ownsRow.lt h.1 k hk).1, h.2 k hk⟩
theorem RX.kept {row : Option Nat} (h : RX t B S w u n vs) (hg : w.grownBy w' row) (hne : u.ownBlock = none ∨ u.ownBlock ≠ row) : RX t B S w' u n vs := ⟨World.ownsRow.kept h.1 hg hne, h.2⟩
theorem RX.later (h : RX t B S w u n vs) (hb : Below w.heap.size w w') : RX t B S w' u n vs := by
  cases hu : u.ownBlock with
  | none => exact h.kept (below_grown hb none) (.inl hu)
  | some k => exact h.kept (below_grown hb none) (.inr (by rw [hu]; simp))
theorem RX.alloc (h : RX t B S w u n vs) (o : Obj) : RX t B S (w.alloc o) u n vs := h.later ((Below.refl _ _).alloc (Nat.le_refl _) o)
theorem RX.drewN (h : RX t B S w u n vs) (m : Nat) : RX t B S (w.drewN m) u n vs := h.later (below_drewN (Below.refl _ _) m)
theorem RX.turn {B' S' : Nat} (h : RX t B S w u n vs) (hg : Turn B' S' w w') (hd : S ≤ B' ∨ S' ≤ B) : RX t B S w' u n vs := by
  refine ⟨?_, h.2⟩
  obtain ⟨h1, h2⟩ := h
  refine ⟨h1.1, ?_⟩
  rcases h1.2 with h3 | ⟨g, c, cur, e, hb, hg', r⟩
  · exact .inl h3
  · have hgS := h2 g (by rw [e]; rfl)
    have hgw : g < w.heap.size := (Array.getElem?_eq_some_iff.1 hg').1
    exact .inr ⟨g, c, cur, e, hb, (hg.block g hgw (by omega)).trans hg', r⟩
theorem RX.setCell (h : RX t B S w u n vs) {a : Addr} (ha : a.block < B ∨ S ≤ a.block) (v : Value) : RX t B S (w.setCell a v) u n vs := by
  refine h.kept (row := some a.block) ⟨rfl, rfl, rfl, by simp, fun k _ hk => Below.heap_setCell _ _ _ _ (fun e => hk (by rw [e]))⟩ ?_
  cases hu : u.ownBlock with
  | none => exact .inl rfl
  | some k =>
    refine .inr fun e => ?_
    have := h.lt k hu
    simp at e
    omega
end
def FX (B S : Nat) (w : World) (u : Value) (xs : List Nat) : Prop := RX 22 B S w u xs.length (xs.map (Value.float .f32))
section
variable {B S B' S' : Nat} {w w' : World} {u : Value} {xs : List Nat}
theorem FX.of (h : OF B w u xs) : FX B w.heap.size w u xs := RX.of h
theorem FX.own (h : FX B S w u xs) : OF B w u xs := h.1
theorem FX.later (h : FX B S w u xs) (hb : Below w.heap.size w w') : FX B S w' u xs := RX.later h hb
theorem FX.alloc (h : FX B S w u xs) (o : Obj) : FX B S (w.alloc o) u xs := RX.alloc h o
theorem FX.drewN (h : FX B S w u xs) (m : Nat) : FX B S (w.drewN m) u xs := RX.drewN h m
theorem FX.turn (h : FX B S w u xs) (hg : Turn B' S' w w') (hd : S ≤ B' ∨ S' ≤ B) : FX B S w' u xs := RX.turn h hg hd
theorem FX.setCell (h : FX B S w u xs) {a : Addr} (ha : a.block < B ∨ S ≤ a.block) (v : Value) : FX B S (w.setCell a v) u xs := RX.setCell h ha v
theorem markX_any (xs : List Nat) (u : Value) (k0 : Int) (w : World) (hs : FX B S w u xs) (hk : 0 ≤ k0 ∧ k0 ≤ 1048576) (hn : xs.length ≤ 1048576) : Calls Try.prog 34 #[u, .int .i64 k0] w (fun e w' => e = .returned (.int .i64 (k0 + xs.length)) ∧ Turn B S w w' ∧ w'.heap.size = w.heap.size ∧ FX B S w' u (marks k0 xs.length)) := by
  have H := markF_any B xs u k0 w hs.own hk hn
  refine H.mono ?_
  rintro e w' ⟨rfl, hg, hz, hO⟩
  exact ⟨rfl, Turn.of hg hs.lt, hz, hO, hs.2⟩
end
end Go.Proofs.Ytiodpahbmoeiaaa
