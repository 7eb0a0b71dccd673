/-
  Marks in a rod and in numbers that were handed back together. No condition but what each contract says.
-/
import Derived.Test.YtgkcfeaknehopaaPrRunL
set_option linter.unusedSimpArgs false
set_option linter.unusedVariables false
set_option linter.unusedSectionVars false
namespace Go.Proofs.Ytgkcfeaknehopaa
open Go Go.RowKit
open Go.ChangeShapes Go.WideShapes Go.ChangeAt Go.RowKit Go.Joins
theorem OF.blk {B : Nat} {w w' : World} {u : Value} {xs : List Nat} (h : OF B w u xs) (hk : ∀ k, u.ownBlock = some k → w'.heap[k]? = w.heap[k]?) : OF B w' u xs := by
  unfold OF World.ownsRow at h ⊢
  refine ⟨h.1, ?_⟩
  rcases h.2 with h3 | ⟨g, c, cur, e, hb, hg', r⟩
  · exact .inl h3
  · exact .inr ⟨g, c, cur, e, hb, (hk g (by rw [e]; rfl)).trans hg', r⟩
theorem RdX.blk {B S : Nat} {w w' : World} {P : Rd} {l : RL} (h : RdX B S w P l) (hk : ∀ k, (Value.slice l.p1 P.a.length l.c1).ownBlock = some k ∨ (Value.slice l.p2 P.b.length l.c2).ownBlock = some k ∨ (Value.slice l.p3 P.c.length l.c3).ownBlock = some k ∨ (Value.slice l.p4 P.d.length l.c4).ownBlock = some k → w'.heap[k]? = w.heap[k]?) : RdX B S w' P l :=
  ⟨⟨⟨h.1.1.1.blk fun k e => hk k (.inl e), h.1.1.2.1.blk fun k e => hk k (.inr (.inl e)), h.1.1.2.2.1.blk fun k e => hk k (.inr (.inr (.inl e))), h.1.1.2.2.2.blk fun k e => hk k (.inr (.inr (.inr e)))⟩, h.1.2⟩, h.2⟩
theorem owned_blk {w w' : World} {b : Nat} {xs : List Value} (h : owned w b xs) (e : w'.heap[b]? = w.heap[b]?) : owned w' b xs :=
  fun k x hk => ⟨(World.cell?_of_block (a := ⟨b, k, none⟩) e).trans (h k x hk).1, (World.frozen?_of_block (a := ⟨b, k, none⟩) e).trans (h k x hk).2⟩
theorem RLat.turn {B B' S' : Nat} {R : Rd} {L : List Nat} {u w' : World} {b : Nat} {m : RL} {q : Option Addr} {c : Nat} (h : RLat B R L u b m q c) (hg : Turn B' S' u w') (hd : S' ≤ B) : RLat B R L w' b m q c := by
  obtain ⟨⟨⟨h1, h2⟩, cs, h3⟩, h4, ⟨ys, h5, h6⟩, h7⟩ := h
  have hb : b < u.heap.size := (Array.getElem?_eq_some_iff.1 h3).1
  have e := hg.block b hb (.inr (by omega))
  have key : ∀ {v xs}, OF B u v xs → OF B w' v xs := fun {v xs} ho => ho.blk fun k hk => hg.block k (ho.block k hk).2 (.inr (by have := (ho.block k hk).1; omega))
  exact ⟨⟨⟨h1, owned_blk h2 e⟩, cs, e.trans h3⟩, ⟨⟨key h4.1.1, key h4.1.2.1, key h4.1.2.2.1, key h4.1.2.2.2⟩, h4.2⟩, ⟨ys, key h5, h6⟩, h7⟩
/-- The rod has marks. -/
def RMat (B : Nat) (R : Rd) (L : List Nat) (u : World) (b : Nat) (m : RL) (q : Option Addr) (c : Nat) : Prop := ((B ≤ b ∧ owned u b [.slice m.p1 R.a.length m.c1, .slice m.p2 R.b.length m.c2, .slice m.p3 R.c.length m.c3, .slice m.p4 R.d.length m.c4]) ∧ ∃ cs, u.heap[b]? = some (.cells cs 29)) ∧ RdX B u.heap.size u (mkRd R 1) m ∧ (∃ ys, OF B u (.slice q L.length c) ys ∧ ys.length = L.length) ∧ ApS q m
/-- Both have. -/
def RNat (B : Nat) (R : Rd) (L : List Nat) (u : World) (b : Nat) (m : RL) (q : Option Addr) (c : Nat) : Prop := (B ≤ b ∧ owned u b [.slice m.p1 R.a.length m.c1, .slice m.p2 R.b.length m.c2, .slice m.p3 R.c.length m.c3, .slice m.p4 R.d.length m.c4]) ∧ RdX B u.heap.size u (mkRd R 1) m ∧ OF B u (.slice q L.length c) (marks (R.sum 1) L.length)
theorem RdX.grow {B S : Nat} {w : World} {P : Rd} {l : RL} (h : RdX B S w P l) : RdX B w.heap.size w P l := RdX.mk' h.1.1 h.2.1 h.2.2.1 h.2.2.2.1 h.2.2.2.2.1 h.2.2.2.2.2.1 h.2.2.2.2.2.2
theorem RMat.later {B : Nat} {R : Rd} {L : List Nat} {u w' : World} {b : Nat} {m : RL} {q : Option Addr} {c : Nat} (h : RMat B R L u b m q c) (hb : Below u.heap.size u w') : RMat B R L w' b m q c := by
  obtain ⟨⟨⟨h1, h2⟩, cs, h3⟩, h4, ⟨ys, h5, h6⟩, h7⟩ := h
  exact ⟨⟨⟨h1, h2.later hb⟩, cs, (hb.block b (Array.getElem?_eq_some_iff.1 h3).1).trans h3⟩, (h4.later hb).grow, ⟨ys, h5.later hb, h6⟩, h7⟩
theorem RNat.later {B : Nat} {R : Rd} {L : List Nat} {u w' : World} {b : Nat} {m : RL} {q : Option Addr} {c : Nat} (h : RNat B R L u b m q c) (hb : Below u.heap.size u w') : RNat B R L w' b m q c :=
  ⟨⟨h.1.1, h.1.2.later hb⟩, (h.2.1.later hb).grow, h.2.2.later hb⟩
theorem ap_own {q p : Option Addr} (h : Ap q p) {n c n' c' k : Nat} (h1 : (Value.slice q n c).ownBlock = some k) : (Value.slice p n' c').ownBlock ≠ some k := by
  intro e
  cases q with
  | none => cases h1
  | some x =>
    cases p with
    | none => cases e
    | some y =>
      have a1 : x.block = k := by have h9 : some x.block = some k := h1; simpa using h9
      have a2 : y.block = k := by have h9 : some y.block = some k := e; simpa using h9
      exact h x y rfl rfl (a1.trans a2.symm)
theorem markRL_any (B : Nat) (R : Rd) (L : List Nat) (w : World) (b : Nat) (m : RL) (q : Option Addr) (c : Nat) (h : RLat B R L w b m q c) (hB : B ≤ w.heap.size) (hn : R.size ≤ 1048576) : Calls Try.prog 21 #[.agg #[.slice m.p1 R.a.length m.c1, .slice m.p2 R.b.length m.c2, .slice m.p3 R.c.length m.c3, .slice m.p4 R.d.length m.c4], .int .i64 1] w (fun e w' => e = .returned (.int .i64 (R.sum 1)) ∧ Below B w w' ∧ RMat B R L w' b m q c) := by
  obtain ⟨⟨⟨h1, h2⟩, cs, h3⟩, h4, ⟨ys, h5, h6⟩, h7⟩ := h
  refine (markRod2_any B w.heap.size R m 1 w (h4.rx (Nat.le_refl _)) (Nat.le_refl _) (by omega) hn).mono ?_
  rintro e w' ⟨rfl, hT, hz, hX, hk⟩
  have hb : b < w.heap.size := (Array.getElem?_eq_some_iff.1 h3).1
  have hne : ∀ {v xs}, OF B w v xs → v.ownBlock ≠ some b := fun {v xs} ho => by
    rcases ho.type h3 (by decide) with e | e
    · rw [e]; intro h; cases h
    · exact e
  have e := hk b hb (hne h4.1.1) (hne h4.1.2.1) (hne h4.1.2.2.1) (hne h4.1.2.2.2)
  refine ⟨rfl, turn_below hT (Nat.le_refl _) hB, ⟨⟨h1, owned_blk h2 e⟩, cs, e.trans h3⟩, hX.grow, ⟨ys, h5.blk fun k hk' => ?_, by rw [← h6, List.length_map]⟩, h7⟩
  exact hk k (h5.block k hk').2 (ap_own h7.1 hk') (ap_own h7.2.1 hk') (ap_own h7.2.2.1 hk') (ap_own h7.2.2.2 hk')
theorem markRL2_any (B : Nat) (R : Rd) (L : List Nat) (w : World) (b : Nat) (m : RL) (q : Option Addr) (c : Nat) (h : RMat B R L w b m q c) (hB : B ≤ w.heap.size) (hn : R.size ≤ 1048576) (hl : L.length ≤ 128) : Calls Try.prog 32 #[.slice q L.length c, .int .i64 (R.sum 1)] w (fun e w' => e = .returned (.int .i64 (R.sum 1 + L.length)) ∧ Below B w w' ∧ RNat B R L w' b m q c) := by
  obtain ⟨⟨⟨h1, h2⟩, cs, h3⟩, h4, ⟨ys, h5, h6⟩, h7⟩ := h
  rw [← h6] at h5 ⊢
  have hs : 0 ≤ R.sum 1 ∧ R.sum 1 ≤ 4194304 := by unfold Rd.sum; unfold Rd.size at hn; omega
  refine (markF2_any B ys _ (R.sum 1) w h5 hs (by omega)).mono ?_
  rintro e w' ⟨rfl, hg, hz, hO⟩
  have hb : b < w.heap.size := (Array.getElem?_eq_some_iff.1 h3).1
  have hne : (Value.slice q ys.length c).ownBlock ≠ some b := by
    rcases h5.type h3 (by decide) with e | e
    · rw [e]; intro h; cases h
    · exact e
  have e := hg.block b hb (fun h => hne h.symm)
  have hlen : ∀ k, (mkRd R k).a.length = R.a.length ∧ (mkRd R k).b.length = R.b.length ∧ (mkRd R k).c.length = R.c.length ∧ (mkRd R k).d.length = R.d.length := fun k => by simp [mkRd, marks_length]
  refine ⟨rfl, (Below.refl _ _).grown hg hB (fun k hk => (h5.block k hk).1), ⟨h1, owned_blk h2 e⟩, (h4.blk fun k hk => ?_).grow, by rw [← h6]; exact hO⟩
  have hkw : k < w.heap.size := by
    rcases hk with hk | hk | hk | hk
    · exact (h4.1.1.1.block k hk).2
    · exact (h4.1.1.2.1.block k hk).2
    · exact (h4.1.1.2.2.1.block k hk).2
    · exact (h4.1.1.2.2.2.block k hk).2
  refine hg.block k hkw fun he => ?_
  rcases hk with hk | hk | hk | hk
  · exact ap_own h7.1 he.symm hk
  · exact ap_own h7.2.1 he.symm hk
  · exact ap_own h7.2.2.1 he.symm hk
  · exact ap_own h7.2.2.2 he.symm hk
end Go.Proofs.Ytgkcfeaknehopaa
