/-
  Rods that are handed back, in plans. No condition but what each contract says.
-/
import Derived.Test.YtgkcfeaknehopaaPrRdA
set_option linter.unusedSimpArgs false
set_option linter.unusedVariables false
set_option linter.unusedSectionVars false
namespace Go.Proofs.Ytgkcfeaknehopaa
open Go Go.RowKit
open Go.ChangeShapes Go.WideShapes Go.ChangeAt Go.RowKit Go.Joins
theorem RdX.ra {B S B' : Nat} {w : World} {P : Rd} {l : RL} (h : RdX B S w P l) (hB : B' ≤ B) : RdA B' w P l := ⟨h.1.1.base hB, h.2⟩
theorem ok_size {P : Rd} (h : P.ok = true) : P.size ≤ 1048576 := by
  have := Rd.ok_len h
  unfold Rd.size
  omega
/-- A rod of the call's own, and a bool. -/
def BRB (w : World) (R : Rd) (b : Bool) (e : Ending) (w' : World) : Prop := ∃ m, e = .returned (.tuple #[.agg #[.slice m.p1 R.a.length m.c1, .slice m.p2 R.b.length m.c2, .slice m.p3 R.c.length m.c3, .slice m.p4 R.d.length m.c4], .bool b]) ∧ Below w.heap.size w w' ∧ RdX w.heap.size w'.heap.size w' R m
def Clm.rodB (R : Rd) (b : Bool) (B : Nat) : Clm := ⟨1, fun _ v => ∃ m, v = .tuple #[rdV R m, .bool b], fun _ v w => ∀ m, v = .tuple #[rdV R m, .bool b] → RdA B w R m, fun _ => ⟨_, nilRL, rfl⟩,
  fun _ v w w' h hb u e => (h u e).later hb, fun h => nomatch h⟩
/-- A variable of the region's own, with its type. -/
def vtK (B : Nat) (xs : List Value) (t : TypeId) (v : Value) (w : World) : Prop := ∀ b, v = .pointer (some ⟨b, 0, none⟩) → (B ≤ b ∧ owned w b xs) ∧ w.heap[b]? = some (.cells xs.toArray t)
def Clm.varT (B : Nat) (xs : List Value) (t : TypeId) : Clm := ⟨1, fun _ v => ∃ b, v = .pointer (some ⟨b, 0, none⟩), fun _ v w => vtK B xs t v w, fun _ => ⟨_, 0, rfl⟩,
  fun _ v w w' h hb b e => ⟨⟨(h b e).1.1, (h b e).1.2.later hb⟩, (hb.block b (Array.getElem?_eq_some_iff.1 (h b e).2).1).trans (h b e).2⟩, fun h => nomatch h⟩
theorem grown_setCells (b : Nat) : ∀ (vs : List Value) (o : Nat) (w : World), w.grownBy (w.setCells b o vs) (some b)
  | [], _, w => World.grownBy.refl _ _
  | v :: r, o, w => World.grownBy.trans (b := w.setCell ⟨b, o, none⟩ v) ⟨rfl, rfl, rfl, by simp, fun k _ hk => Below.heap_setCell _ _ _ _ (fun e => hk (by rw [e]))⟩ (grown_setCells b r (o + 1) _)
theorem OF.type {B : Nat} {w : World} {u : Value} {xs : List Nat} (h : OF B w u xs) {b : Nat} {cs : Array Value} {t : TypeId} (hb : w.heap[b]? = some (.cells cs t)) (ht : t ≠ 25) : u.ownBlock = none ∨ u.ownBlock ≠ some b := by
  unfold OF World.ownsRow at h
  rcases h.2 with ⟨h', _⟩ | ⟨g, cap, cur, h', _, hg, _⟩
  · exact .inl (by rw [h']; rfl)
  · refine .inr fun e => ?_
    rw [h'] at e
    have e2 : g = b := by simpa [Value.ownBlock] using e
    subst e2
    rw [hg] at hb
    simp only [Option.some.injEq, Obj.cells.injEq] at hb
    exact ht hb.2.1.symm
theorem RdA.setCells {B : Nat} {w : World} {P : Rd} {l : RL} (h : RdA B w P l) {b : Nat} {cs : Array Value} {t : TypeId} (hb : w.heap[b]? = some (.cells cs t)) (ht : t ≠ 25) (o : Nat) (vs : List Value) : RdA B (w.setCells b o vs) P l :=
  have hg := grown_setCells b vs o w
  ⟨⟨h.1.1.kept hg (h.1.1.type hb ht), h.1.2.1.kept hg (h.1.2.1.type hb ht), h.1.2.2.1.kept hg (h.1.2.2.1.type hb ht), h.1.2.2.2.kept hg (h.1.2.2.2.type hb ht)⟩, h.2⟩
section
variable {P : Program} {ops : Array Oper} {Q : Exit → Act → World → Prop} {W : World} {l : List Oper} {cs : List Clm} {i : Nat} {ks : List (Nat × (World → Prop))} {a : Act} {o : Oper}
theorem setCells_type (b : Nat) (t : TypeId) : ∀ (vs : List Value) (o : Nat) (w : World), (∃ cs, w.heap[b]? = some (.cells cs t)) → ∃ cs, (w.setCells b o vs).heap[b]? = some (.cells cs t)
  | [], _, _, h => h
  | v :: r, o, w, ⟨cs, h⟩ => setCells_type b t r (o + 1) _ ⟨_, heap_setCell_same w b o cs t v h⟩
end
set_option maxHeartbeats 2000000 in
theorem markRod2_any (B S : Nat) (P : Rd) (l : RL) (k0 : Int) (w : World) (hs : RdX B S w P l) (hS : S ≤ w.heap.size) (hk : 0 ≤ k0 ∧ k0 ≤ 8) (hn : P.size ≤ 1048576) : Calls Try.prog 21 #[.agg #[.slice l.p1 P.a.length l.c1, .slice l.p2 P.b.length l.c2, .slice l.p3 P.c.length l.c3, .slice l.p4 P.d.length l.c4], .int .i64 k0] w (fun e w' => e = .returned (.int .i64 (P.sum k0)) ∧ Turn B S w w' ∧ w.heap.size ≤ w'.heap.size ∧ RdX B S w' (mkRd P k0) l ∧ ∀ k, k < w.heap.size → (Value.slice l.p1 P.a.length l.c1).ownBlock ≠ some k → (Value.slice l.p2 P.b.length l.c2).ownBlock ≠ some k → (Value.slice l.p3 P.c.length l.c3).ownBlock ≠ some k → (Value.slice l.p4 P.d.length l.c4).ownBlock ≠ some k → w'.heap[k]? = w.heap[k]?) := by
  have HS := Lib.hid hs
  have HZ : Hid (P.sum k0 = k0 + P.a.length + P.b.length + P.c.length + P.d.length) := rfl
  obtain ⟨⟨⟨o1, o2, o3, o4⟩, s1, s2, s3, s4⟩, a12, a13, a14, a23, a24, a34⟩ := hs
  unfold Rd.size at hn
  have O1 := Lib.hid (o1.alloc (.cells #[.slice l.p1 P.a.length l.c1, .slice l.p2 P.b.length l.c2, .slice l.p3 P.c.length l.c3, .slice l.p4 P.d.length l.c4] 29))
  have O2 := Lib.hid (o2.alloc (.cells #[.slice l.p1 P.a.length l.c1, .slice l.p2 P.b.length l.c2, .slice l.p3 P.c.length l.c3, .slice l.p4 P.d.length l.c4] 29))
  have O3 := Lib.hid (o3.alloc (.cells #[.slice l.p1 P.a.length l.c1, .slice l.p2 P.b.length l.c2, .slice l.p3 P.c.length l.c3, .slice l.p4 P.d.length l.c4] 29))
  have O4 := Lib.hid (o4.alloc (.cells #[.slice l.p1 P.a.length l.c1, .slice l.p2 P.b.length l.c2, .slice l.p3 P.c.length l.c3, .slice l.p4 P.d.length l.c4] 29))
  have r1 : some w.heap.size ≠ (Value.slice l.p1 P.a.length l.c1).ownBlock := fun e => by have := s1 _ e.symm; omega
  have r2 : some w.heap.size ≠ (Value.slice l.p2 P.b.length l.c2).ownBlock := fun e => by have := s2 _ e.symm; omega
  have r3 : some w.heap.size ≠ (Value.slice l.p3 P.c.length l.c3).ownBlock := fun e => by have := s3 _ e.symm; omega
  have t1 := Lib.hid (fun w w' (hg : World.grownBy w w' (Value.slice l.p1 P.a.length l.c1).ownBlock) => Turn.of hg (fun k hk => ⟨(OF.block o1 k hk).1, s1 k hk⟩))
  have t2 := Lib.hid (fun w w' (hg : World.grownBy w w' (Value.slice l.p2 P.b.length l.c2).ownBlock) => Turn.of hg (fun k hk => ⟨(OF.block o2 k hk).1, s2 k hk⟩))
  have t3 := Lib.hid (fun w w' (hg : World.grownBy w w' (Value.slice l.p3 P.c.length l.c3).ownBlock) => Turn.of hg (fun k hk => ⟨(OF.block o3 k hk).1, s3 k hk⟩))
  have t4 := Lib.hid (fun w w' (hg : World.grownBy w w' (Value.slice l.p4 P.d.length l.c4).ownBlock) => Turn.of hg (fun k hk => ⟨(OF.block o4 k hk).1, s4 k hk⟩))
  have HR := Lib.hid r1
  have HR2 := Lib.hid r2
  have HR3 := Lib.hid r3
  clear r1 r2 r3 o1 o2 o3 o4 s1 s2 s3 s4
  go_enter Try.func21, Try.ntmps21
  go_wp2_with fail
  have hat : Hid (RdAt P l (w.alloc (.cells #[.slice l.p1 P.a.length l.c1, .slice l.p2 P.b.length l.c2, .slice l.p3 P.c.length l.c3, .slice l.p4 P.d.length l.c4] 29)) w.heap.size 0) := (by unfold RdAt; refine ⟨?_, ?_, ?_, ?_⟩ <;> go_simp)
  refine (markF2_any B P.a _ k0 _ O1.out (by omega) (by omega)).mono ?_
  rintro e w1 ⟨rfl, hg1, hz1, hO1⟩
  have T1 := Lib.hid (((Turn.refl B S w).alloc _).trans (t1.out _ _ hg1))
  have hat1 := Lib.hid (hat.out.grown hg1 HR.out)
  have P2 := Lib.hid (O2.out.kept hg1 a12.symm.row)
  have P3 := Lib.hid (O3.out.kept hg1 a13.symm.row)
  have P4 := Lib.hid (O4.out.kept hg1 a14.symm.row)
  have Q1 := Lib.hid hO1
  obtain ⟨g0, g1, g2, g3⟩ := hat1.out
  simp only [Nat.zero_add] at g0 g1 g2 g3
  have G1 := Lib.hid hg1
  clear hg1 hO1
  go_wp2_with fail
  refine (markF2_any B P.b _ (k0 + P.a.length) _ P2.out (by omega) (by omega)).mono ?_
  rintro e w2 ⟨rfl, hg2, hz2, hO2⟩
  clear g0 g1 g2 g3
  have T2 := Lib.hid (T1.out.trans (t2.out _ _ hg2))
  have hat2 := Lib.hid (hat1.out.grown hg2 HR2.out)
  have R1 := Lib.hid (Q1.out.kept hg2 (by have := a12.row (n := P.a.length) (c := l.c1) (m := P.b.length) (d := l.c2); exact this))
  have R3 := Lib.hid (P3.out.kept hg2 a23.symm.row)
  have R4 := Lib.hid (P4.out.kept hg2 a24.symm.row)
  have R2 := Lib.hid hO2
  obtain ⟨g0, g1, g2, g3⟩ := hat2.out
  simp only [Nat.zero_add] at g0 g1 g2 g3
  have G2 := Lib.hid hg2
  clear hg2 hO2
  go_wp2_with fail
  refine (markF2_any B P.c _ (k0 + P.a.length + P.b.length) _ R3.out (by omega) (by omega)).mono ?_
  rintro e w3 ⟨rfl, hg3, hz3, hO3⟩
  clear g0 g1 g2 g3
  have T3 := Lib.hid (T2.out.trans (t3.out _ _ hg3))
  have hat3 := Lib.hid (hat2.out.grown hg3 HR3.out)
  have U1 := Lib.hid (R1.out.kept hg3 (by have := a13.row (n := P.a.length) (c := l.c1) (m := P.c.length) (d := l.c3); exact this))
  have U2 := Lib.hid (R2.out.kept hg3 (by have := a23.row (n := P.b.length) (c := l.c2) (m := P.c.length) (d := l.c3); exact this))
  have U4 := Lib.hid (R4.out.kept hg3 a34.symm.row)
  have U3 := Lib.hid hO3
  obtain ⟨g0, g1, g2, g3⟩ := hat3.out
  simp only [Nat.zero_add] at g0 g1 g2 g3
  have G3 := Lib.hid hg3
  clear hg3 hO3
  go_wp2_with fail
  refine (markF2_any B P.d _ (k0 + P.a.length + P.b.length + P.c.length) _ U4.out (by omega) (by omega)).mono ?_
  rintro e w4 ⟨rfl, hg4, hz4, hO4⟩
  clear g0 g1 g2 g3
  have T4 := Lib.hid (T3.out.trans (t4.out _ _ hg4))
  have V1 := Lib.hid (U1.out.kept hg4 (by have := a14.row (n := P.a.length) (c := l.c1) (m := P.d.length) (d := l.c4); exact this))
  have V2 := Lib.hid (U2.out.kept hg4 (by have := a24.row (n := P.b.length) (c := l.c2) (m := P.d.length) (d := l.c4); exact this))
  have V3 := Lib.hid (U3.out.kept hg4 (by have := a34.row (n := P.c.length) (c := l.c3) (m := P.d.length) (d := l.c4); exact this))
  have V4 := Lib.hid hO4
  have G4 := Lib.hid hg4
  clear hg4 hO4
  go_wp2_with fail
  go_ret
  refine ⟨by rw [HZ.out]; rfl, T4.out, T4.out.size, ⟨⟨⟨?_, ?_, ?_, ?_⟩, ?_⟩, HS.out.2⟩, fun k hk h1 h2 h3 h4 => ?_⟩
  · simpa only [mkRd, marks_length] using V1.out
  · simpa only [mkRd, marks_length] using V2.out
  · simpa only [mkRd, marks_length] using V3.out
  · simpa only [mkRd, marks_length] using V4.out
  · simpa only [mkRd, marks_length] using HS.out.1.2
  · have z1 := G1.out.size
    have z2 := G2.out.size
    have z3 := G3.out.size
    simp only [World.size_alloc] at z1
    have e0 : (w.alloc (.cells #[.slice l.p1 P.a.length l.c1, .slice l.p2 P.b.length l.c2, .slice l.p3 P.c.length l.c3, .slice l.p4 P.d.length l.c4] 29)).heap[k]? = w.heap[k]? := ((Below.refl w.heap.size w).alloc (Nat.le_refl _) _).block k hk
    have e1 := G1.out.block k (by simp only [World.size_alloc]; omega) (fun e => h1 e.symm)
    have e2 := G2.out.block k (by omega) (fun e => h2 e.symm)
    have e3 := G3.out.block k (by omega) (fun e => h3 e.symm)
    have e4 := G4.out.block k (by omega) (fun e => h4 e.symm)
    exact e4.trans (e3.trans (e2.trans (e1.trans e0)))
end Go.Proofs.Ytgkcfeaknehopaa
