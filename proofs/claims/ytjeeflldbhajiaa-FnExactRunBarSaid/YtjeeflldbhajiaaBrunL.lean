/-
  Bars that are handed back with numbers, in plans with memory that turns; marks in both. No condition but what each contract says.
-/
import Derived.Test.YtjeeflldbhajiaaBrun
import Derived.Test.YtjeeflldbhajiaaBarMk
import Derived.Test.YtjeeflldbhajiaaBxHeld
set_option linter.unusedSimpArgs false
set_option linter.unusedVariables false
set_option linter.unusedSectionVars false
namespace Go.Proofs.Ytjeeflldbhajiaa
open Go Go.RowKit
open Go.ChangeShapes Go.WideShapes Go.ChangeAt Go.RowKit Go.Joins
def bgV (s : St) (p n : Nat) (q : Option Addr) (c : Nat) : Value := .agg #[.float .f32 s.a, .float .f32 s.b, .float .f32 s.c, .float .f32 s.d, .float .f32 s.p, .float .f32 s.l, .float .f32 p, .slice q n c]
theorem bgV_inj {s : St} {p n : Nat} {q q' : Option Addr} {c c' : Nat} (h : bgV s p n q c = bgV s p n q' c') : q = q' ∧ c = c' := by
  unfold bgV at h
  simpa using h
/-- Numbers beside a bar: own and apart, or none at all. -/
def HtB (B : Nat) (u : World) (v0 v : Value) (ys : List Nat) : Prop := (OF B u v ys ∧ ApV v v0) ∨ (ys = [] ∧ ∃ p, v = .slice p 0 0)
theorem HtB.later {B : Nat} {u w' : World} {v0 v : Value} {ys : List Nat} (h : HtB B u v0 v ys) (hb : Below u.heap.size u w') : HtB B w' v0 v ys := h.imp (fun h => ⟨h.1.later hb, h.2⟩) id
theorem HtB.fs {B : Nat} {u : World} {v0 v : Value} {ys : List Nat} (h : HtB B u v0 v ys) : FS u v ys := by
  rcases h with h | ⟨rfl, q, rfl⟩
  · exact h.1.fs
  · exact ⟨q, 0, rfl, by simp, by simp, fun i hi => by simp at hi⟩
theorem HtB.blk {B : Nat} {u w' : World} {v0 v : Value} {ys : List Nat} (h : HtB B u v0 v ys) (hk : ∀ k, v.ownBlock = some k → B ≤ k → k < u.heap.size → v0.ownBlock ≠ some k → w'.heap[k]? = u.heap[k]?) : HtB B w' v0 v ys :=
  h.imp (fun h => ⟨h.1.blk fun k e => hk k e (h.1.block k e).1 (h.1.block k e).2 (h.2 k e), h.2⟩) id
theorem HtB.base {B B' : Nat} {u : World} {v0 v : Value} {ys : List Nat} (h : HtB B u v0 v ys) (hb : B' ≤ B) : HtB B' u v0 v ys := h.imp (fun h => ⟨h.1.base hb, h.2⟩) id
/-- A bar in a variable and numbers: all own, all apart. -/
def BLat (B : Nat) (s : St) (p : Nat) (X L : List Nat) (u : World) (b : Nat) (q0 : Option Addr) (c0 : Nat) (q : Option Addr) (c : Nat) : Prop := ((B ≤ b ∧ owned u b (barC s p (.slice q0 X.length c0))) ∧ ∃ cs, u.heap[b]? = some (.cells cs 32)) ∧ OF B u (.slice q0 X.length c0) X ∧ ∃ ys, HtB B u (.slice q0 X.length c0) (.slice q L.length c) ys ∧ ys.map (cn .f32) = L
theorem BLat.later {B : Nat} {s : St} {p : Nat} {X L : List Nat} {u w' : World} {b : Nat} {q0 : Option Addr} {c0 : Nat} {q : Option Addr} {c : Nat} (h : BLat B s p X L u b q0 c0 q c) (hb : Below u.heap.size u w') : BLat B s p X L w' b q0 c0 q c := by
  obtain ⟨⟨⟨h1, h2⟩, cs, h3⟩, h4, ys, h5, h6⟩ := h
  exact ⟨⟨⟨h1, h2.later hb⟩, cs, (hb.block b (Array.getElem?_eq_some_iff.1 h3).1).trans h3⟩, h4.later hb, ys, h5.later hb, h6⟩
theorem BLat.turn {B B' S' : Nat} {s : St} {p : Nat} {X L : List Nat} {u w' : World} {b : Nat} {q0 : Option Addr} {c0 : Nat} {q : Option Addr} {c : Nat} (h : BLat B s p X L u b q0 c0 q c) (hg : Turn B' S' u w') (hd : S' ≤ B) : BLat B s p X L w' b q0 c0 q c := by
  obtain ⟨⟨⟨h1, h2⟩, cs, h3⟩, h4, ys, h5, h6⟩ := h
  have hb : b < u.heap.size := (Array.getElem?_eq_some_iff.1 h3).1
  have e := hg.block b hb (.inr (by omega))
  exact ⟨⟨⟨h1, owned_blk h2 e⟩, cs, e.trans h3⟩, h4.blk fun k hk => hg.block k (h4.block k hk).2 (.inr (by have := (h4.block k hk).1; omega)), ys, h5.blk fun k _ h7 h8 _ => hg.block k h8 (.inr (by omega)), h6⟩
def blM (B : Nat) (s : St) (p : Nat) (X L : List Nat) (bb : Bool) (x : List Value) (u : World) : Prop := ∀ b q0 c0 q c, Value.pointer (some ⟨b, 0, none⟩) ∈ x → Value.tuple #[bgV s p X.length q0 c0, .slice q L.length c, .bool bb] ∈ x → BLat B s p X L u b q0 c0 q c
theorem blM_keeps (B : Nat) (s : St) (p : Nat) (X L : List Nat) (bb : Bool) : Keeps (blM B s p X L bb) := fun x w w' h hb b q0 c0 q c h1 h2 => (h b q0 c0 q c h1 h2).later hb
/-- The call that hands back a bar and numbers. -/
def blK (B : Nat) (s : St) (p : Nat) (X L : List Nat) (bb : Bool) (v : Value) (w : World) : Prop := ∀ q0 c0 q c, v = .tuple #[bgV s p X.length q0 c0, .slice q L.length c, .bool bb] → OF B w (.slice q0 X.length c0) X ∧ ∃ ys, HtB B w (.slice q0 X.length c0) (.slice q L.length c) ys ∧ ys.map (cn .f32) = L
def Clm.barL (B : Nat) (s : St) (p : Nat) (X L : List Nat) (bb : Bool) : Clm := ⟨1, fun _ v => ∃ q0 c0 q c, v = .tuple #[bgV s p X.length q0 c0, .slice q L.length c, .bool bb], fun _ v w => blK B s p X L bb v w, fun _ => ⟨_, none, 0, none, 0, rfl⟩,
  fun _ v w w' h hb q0 c0 q c e => by
    obtain ⟨h1, ys, h2, h3⟩ := h q0 c0 q c e
    exact ⟨h1.later hb, ys, h2.later hb, h3⟩, fun h => nomatch h⟩
/-- An own bar. -/
def Clm.barO (B : Nat) (s : St) (p : Nat) (X : List Nat) : Clm := ⟨1, fun _ v => ∃ q c, v = bgV s p X.length q c, fun _ v w => ∀ q c, v = bgV s p X.length q c → OF B w (.slice q X.length c) X, fun _ => ⟨_, none, 0, rfl⟩, fun _ v w w' h hb q c e => (h q c e).later hb, fun h => nomatch h⟩
section
variable {P : Program} {ops : Array Oper} {Q : Exit → Act → World → Prop} {F I : World → Prop} {l : List Oper} {cs : List GC} {i : Nat} {ks : List (Nat × (World → Prop))} {a : Act} {o : Oper}
theorem wpG_callBL {s : St} {p : Nat} {X L : List Nat} {b : Bool} (B : Nat) (hw : Region.wanted o (yielded ops a.tmps) = true) {f : FuncId} {args : Array Value} (he : ∀ w, (execOp a.eval o).run P w = .ok (.enter f args) w)
    (hB : ∀ w, I w → B ≤ w.heap.size) (hc : ∀ w, I w → depK o ks w → Calls P f args w (BBL w s p X L b))
    (h : ∀ q0 c0 q c, wpG P ops Q F I l cs (i + 1) ((i, blK B s p X L b (.tuple #[bgV s p X.length q0 c0, .slice q L.length c, .bool b])) :: ks) (a.put o.dst (.tuple #[.agg #[.float .f32 s.a, .float .f32 s.b, .float .f32 s.c, .float .f32 s.d, .float .f32 s.p, .float .f32 s.l, .float .f32 p, .slice q0 X.length c0], .slice q L.length c, .bool b]))) : wpG P ops Q F I (o :: l) (GC.of (Clm.barL B s p X L b) :: cs) i ks a := by
  refine wpG_one (Clm.barL B s p X L b) rfl hw (fun w hi hk => ?_) ?_
  · rw [he w]
    refine Calls.mono (hc w hi hk) ?_
    rintro e w' ⟨q0, c0, q, c, ys, rfl, hbl, hX, hO, hm⟩
    have hl : ys.length = L.length := by rw [← hm, List.length_map]
    rw [hl] at hO ⊢
    refine ⟨_, rfl, hbl, ⟨q0, c0, q, c, rfl⟩, fun q0' c0' q' c' e => ?_⟩
    have e1 : bgV s p X.length q0 c0 = bgV s p X.length q0' c0' ∧ q = q' ∧ c = c' := by
      have h2 : Value.tuple #[bgV s p X.length q0 c0, .slice q L.length c, .bool b] = .tuple #[bgV s p X.length q0' c0', .slice q' L.length c', .bool b] := e
      simp only [Value.tuple.injEq, Array.mk.injEq, List.cons.injEq, Value.slice.injEq, and_true, true_and] at h2
      exact h2
    obtain ⟨e2, rfl, rfl⟩ := e1
    obtain ⟨rfl, rfl⟩ := bgV_inj e2
    refine ⟨hX.base (hB w hi), ys, ?_, hm⟩
    rcases hO with h | ⟨h, rfl⟩
    · exact .inl ⟨h.1.base (hB w hi), h.2⟩
    · refine .inr ⟨h, q, ?_⟩
      rw [← hl, h]; rfl
  · rintro v ⟨q0, c0, q, c, rfl⟩; exact h q0 c0 q c
theorem wpG_callBO {s : St} {p : Nat} {X : List Nat} (B : Nat) (hw : Region.wanted o (yielded ops a.tmps) = true) {f : FuncId} {args : Array Value} (he : ∀ w, (execOp a.eval o).run P w = .ok (.enter f args) w)
    (hB : ∀ w, I w → B ≤ w.heap.size) (hc : ∀ w, I w → depK o ks w → Calls P f args w (fun e w' => ∃ u, e = .returned (.agg #[.float .f32 s.a, .float .f32 s.b, .float .f32 s.c, .float .f32 s.d, .float .f32 s.p, .float .f32 s.l, .float .f32 p, u]) ∧ Below w.heap.size w w' ∧ OF w.heap.size w' u X))
    (h : ∀ q c, wpG P ops Q F I l cs (i + 1) ((i, fun w => ∀ q' c', bgV s p X.length q c = bgV s p X.length q' c' → OF B w (.slice q' X.length c') X) :: ks) (a.put o.dst (.agg #[.float .f32 s.a, .float .f32 s.b, .float .f32 s.c, .float .f32 s.d, .float .f32 s.p, .float .f32 s.l, .float .f32 p, .slice q X.length c]))) : wpG P ops Q F I (o :: l) (GC.of (Clm.barO B s p X) :: cs) i ks a := by
  refine wpG_one (Clm.barO B s p X) rfl hw (fun w hi hk => ?_) ?_
  · rw [he w]
    refine Calls.mono (hc w hi hk) ?_
    rintro e w' ⟨u, rfl, hbl, hX⟩
    obtain ⟨q, c, rfl⟩ := OF.shape hX
    refine ⟨_, rfl, hbl, ⟨q, c, rfl⟩, fun q' c' e => ?_⟩
    have e1 : bgV s p X.length q c = bgV s p X.length q' c' := e
    obtain ⟨rfl, rfl⟩ := bgV_inj e1
    exact hX.base (hB w hi)
  · rintro v ⟨q, c, rfl⟩; exact h q c
end
/-- The store of the bar into its variable. -/
theorem bl_put {B : Nat} {s : St} {p : Nat} {X L : List Nat} {bb : Bool} {u : World} {b : Nat} {q0 : Option Addr} {c0 : Nat} {q : Option Addr} {c : Nat} (h1 : blK B s p X L bb (.tuple #[bgV s p X.length q0 c0, .slice q L.length c, .bool bb]) u) (h2 : vtK B [.float .f32 0, .float .f32 0, .float .f32 0, .float .f32 0, .float .f32 0, .float .f32 0, .float .f32 0, .slice none 0 0] 32 (.pointer (some ⟨b, 0, none⟩)) u) :
    BLat B s p X L (u.setCells b 0 (barC s p (.slice q0 X.length c0))) b q0 c0 q c := by
  obtain ⟨k1, ys, k2, k3⟩ := h1 q0 c0 q c rfl
  obtain ⟨⟨g1, g2⟩, g3⟩ := h2 b rfl
  have hgs := grown_setCells b (barC s p (.slice q0 X.length c0)) 0 u
  have key : ∀ {v xs}, OF B u v xs → OF B (u.setCells b 0 (barC s p (.slice q0 X.length c0))) v xs := fun {v xs} h => h.kept hgs (h.type g3 (by decide))
  exact ⟨⟨⟨g1, barC_stored (s0 := St0) (p0 := 0) (u0 := .slice none 0 0) g2⟩, setCells_type b _ _ _ u ⟨_, g3⟩⟩, key k1, ys, k2.imp (fun h => ⟨key h.1, h.2⟩) id, k3⟩
theorem blM_put {B : Nat} {s : St} {p : Nat} {X L : List Nat} {bb : Bool} {u : World} {b : Nat} {q0 : Option Addr} {c0 : Nat} {q : Option Addr} {c : Nat} {x : List Value} (h1 : blK B s p X L bb (.tuple #[bgV s p X.length q0 c0, .slice q L.length c, .bool bb]) u) (h2 : vtK B [.float .f32 0, .float .f32 0, .float .f32 0, .float .f32 0, .float .f32 0, .float .f32 0, .float .f32 0, .slice none 0 0] 32 (.pointer (some ⟨b, 0, none⟩)) u)
    (hp : ∀ b', Value.pointer (some ⟨b', 0, none⟩) ∈ x → b' = b) (ht : ∀ q0' c0' q' c', Value.tuple #[bgV s p X.length q0' c0', .slice q' L.length c', .bool bb] ∈ x → (q0' = q0 ∧ c0' = c0) ∧ q' = q ∧ c' = c) : blM B s p X L bb x (u.setCells b 0 [.float .f32 s.a, .float .f32 s.b, .float .f32 s.c, .float .f32 s.d, .float .f32 s.p, .float .f32 s.l, .float .f32 p, .slice q0 X.length c0]) := by
  intro b' q0' c0' q' c' k1 k2
  obtain ⟨⟨rfl, rfl⟩, rfl, rfl⟩ := ht q0' c0' q' c' k2
  rw [hp b' k1]
  exact bl_put h1 h2
/-- A result of a run, read anew. -/
theorem bbl_at {w w' : World} {s : St} {p : Nat} {X L : List Nat} {b : Bool} {e : Ending} (h : BBL w s p X L b e w') : ∃ q0 c0 q c, e = .returned (.tuple #[.agg #[.float .f32 s.a, .float .f32 s.b, .float .f32 s.c, .float .f32 s.d, .float .f32 s.p, .float .f32 s.l, .float .f32 p, .slice q0 X.length c0], .slice q L.length c, .bool b]) ∧ Below w.heap.size w w' ∧ OF w.heap.size w' (.slice q0 X.length c0) X ∧ ∃ ys, HtB w.heap.size w' (.slice q0 X.length c0) (.slice q L.length c) ys ∧ ys.map (cn .f32) = L := by
  obtain ⟨q0, c0, q, c, ys, rfl, hbl, hX, hO, hm⟩ := h
  have hl : ys.length = L.length := by rw [← hm, List.length_map]
  rw [hl] at hO ⊢
  refine ⟨_, _, _, _, rfl, hbl, hX, ys, ?_, hm⟩
  rcases hO with h | ⟨h, rfl⟩
  · exact .inl h
  · refine .inr ⟨h, q, ?_⟩
    rw [← hl, h]; rfl
theorem bl_new {B B' : Nat} {s : St} {p : Nat} {X L : List Nat} {u : World} {q0 : Option Addr} {c0 : Nat} {q : Option Addr} {c : Nat} (h : OF B' u (.slice q0 X.length c0) X ∧ ∃ ys, HtB B' u (.slice q0 X.length c0) (.slice q L.length c) ys ∧ ys.map (cn .f32) = L) (hb : B ≤ B') (hB : B ≤ u.heap.size) :
    BLat B s p X L (u.alloc (.cells #[.float .f32 s.a, .float .f32 s.b, .float .f32 s.c, .float .f32 s.d, .float .f32 s.p, .float .f32 s.l, .float .f32 p, .slice q0 X.length c0] 32)) u.heap.size q0 c0 q c := by
  obtain ⟨h1, ys, h2, h3⟩ := h
  have hal : ∀ o, Below u.heap.size u (u.alloc o) := fun o => (Below.refl _ _).alloc (Nat.le_refl _) _
  exact ⟨⟨⟨hB, owned_alloc u (barC s p (.slice q0 X.length c0)) _⟩, _, heap_alloc_new u _⟩, (h1.base hb).later (hal _), ys, (h2.base hb).later (hal _), h3⟩
/-- Both with marks: first the bar. -/
def BMat (B : Nat) (s : St) (p : Nat) (X L : List Nat) (u : World) (b : Nat) (q0 : Option Addr) (c0 : Nat) (q : Option Addr) (c : Nat) : Prop := ((B ≤ b ∧ owned u b (barC s p (.slice q0 X.length c0))) ∧ ∃ cs, u.heap[b]? = some (.cells cs 32)) ∧ OF B u (.slice q0 X.length c0) (marks 1 X.length) ∧ ∃ ys, HtB B u (.slice q0 X.length c0) (.slice q L.length c) ys ∧ ys.length = L.length
def BNat (s : St) (p : Nat) (X L : List Nat) (u : World) (b : Nat) (q0 : Option Addr) (c0 : Nat) (q : Option Addr) (c : Nat) : Prop := owned u b (barC s p (.slice q0 X.length c0)) ∧ FS u (.slice q0 X.length c0) (marks 1 X.length) ∧ FS u (.slice q L.length c) (marks (1 + X.length) L.length)
theorem BNat.later {s : St} {p : Nat} {X L : List Nat} {u w' : World} {b : Nat} {q0 : Option Addr} {c0 : Nat} {q : Option Addr} {c : Nat} (h : BNat s p X L u b q0 c0 q c) (hb : Below u.heap.size u w') : BNat s p X L w' b q0 c0 q c := ⟨h.1.later hb, h.2.1.later hb, h.2.2.later hb⟩
theorem FX.tight {B : Nat} {w : World} {u : Value} {xs : List Nat} (h : OF B w u xs) : ∃ b S, FX b S w u xs ∧ S ≤ w.heap.size ∧ B ≤ b ∧ ∀ k, b ≤ k → k < S → u.ownBlock = some k := by
  have h' := h
  unfold OF World.ownsRow at h'
  rcases h'.2 with ⟨h2, h3⟩ | ⟨g, cap, cur, rfl, hbg, hg, hr⟩
  · refine ⟨B, 0, ⟨h, fun k hk => ?_⟩, Nat.zero_le _, Nat.le_refl _, fun k _ hk => absurd hk (by omega)⟩
    rw [h2] at hk; cases hk
  · have hlt : g < w.heap.size := (Array.getElem?_eq_some_iff.1 hg).1
    refine ⟨g, g + 1, ⟨⟨h'.1, .inr ⟨g, cap, cur, rfl, Nat.le_refl _, hg, hr⟩⟩, fun k hk => ?_⟩, hlt, hbg, fun k h1 h2 => ?_⟩
    · have e : g = k := by have h9 : some g = some k := hk; simpa using h9
      omega
    · show some g = some k
      rw [show k = g by omega]
set_option maxHeartbeats 1000000 in
theorem mark0_any (q : Option Addr) (k0 : Int) (w : World) (hk : 0 ≤ k0 ∧ k0 ≤ 1048576) : Calls Try.prog 33 #[.slice q 0 0, .int .i64 k0] w (fun e w' => e = .returned (.int .i64 k0) ∧ w' = w) := by
  obtain ⟨k1, k2⟩ := hk
  go_enter Try.func33, Try.ntmps33
  go_wp2
  go_loopw [1, 5] (fun s t wr => s = .int .i64 k0 ∧ t = .int .i64 0 ∧ wr = w) (fun _ _ _ => 0)
  case atStart => exact ⟨rfl, rfl, rfl⟩
  case round =>
    obtain ⟨rfl, rfl, rfl⟩ := hrel
    go_wp2
    go_ret
    exact ⟨rfl, rfl⟩
theorem markBL_any (B : Nat) (s : St) (p : Nat) (X L : List Nat) (w : World) (b : Nat) (q0 : Option Addr) (c0 : Nat) (q : Option Addr) (c : Nat) (h : BLat B s p X L w b q0 c0 q c) (hB : B ≤ w.heap.size) (hn : X.length ≤ 1048576) : Calls Try.prog 32 #[.agg #[.float .f32 s.a, .float .f32 s.b, .float .f32 s.c, .float .f32 s.d, .float .f32 s.p, .float .f32 s.l, .float .f32 p, .slice q0 X.length c0], .int .i64 1] w (fun e w' => e = .returned (.int .i64 (1 + X.length)) ∧ Below B w w' ∧ BMat B s p X L w' b q0 c0 q c) := by
  obtain ⟨⟨⟨h1, h2⟩, cs, h3⟩, h4, ys, h5, h6⟩ := h
  obtain ⟨b1, S1, hX, hS, hb1, hT⟩ := FX.tight h4
  refine (markBar_any s p X _ 1 w hX hS (by omega) hn).mono ?_
  rintro e w' ⟨rfl, hg, hz, hO⟩
  have hb : b < w.heap.size := (Array.getElem?_eq_some_iff.1 h3).1
  have key : ∀ k, k < w.heap.size → (Value.slice q0 X.length c0).ownBlock ≠ some k → w'.heap[k]? = w.heap[k]? := fun k hk hne => hg.block k hk (by
    rcases Nat.lt_or_ge k b1 with h | h
    · exact .inl h
    · rcases Nat.lt_or_ge k S1 with h7 | h7
      · exact absurd (hT k h h7) hne
      · exact .inr h7)
  have hne : (Value.slice q0 X.length c0).ownBlock ≠ some b := by
    rcases h4.type h3 (by decide) with e | e
    · rw [e]; intro h; cases h
    · exact e
  have e := key b hb hne
  refine ⟨rfl, turn_below hg hb1 hB, ⟨⟨h1, owned_blk h2 e⟩, cs, e.trans h3⟩, ?_, ys, h5.blk fun k _ _ h8 h9 => key k h8 h9, by rw [← h6, List.length_map]⟩
  have h9 := OF.base hO.1 hb1
  exact h9
theorem markBL2_any (B : Nat) (s : St) (p : Nat) (X L : List Nat) (w : World) (b : Nat) (q0 : Option Addr) (c0 : Nat) (q : Option Addr) (c : Nat) (h : BMat B s p X L w b q0 c0 q c) (hB : B ≤ w.heap.size) (hn : X.length ≤ 128) (hl : L.length ≤ 128) : Calls Try.prog 33 #[.slice q L.length c, .int .i64 (1 + X.length)] w (fun e w' => e = .returned (.int .i64 (1 + X.length + L.length)) ∧ Below B w w' ∧ BNat s p X L w' b q0 c0 q c) := by
  obtain ⟨⟨⟨h1, h2⟩, cs, h3⟩, h4, ys, h5, h6⟩ := h
  rcases h5 with ⟨h5, h7⟩ | ⟨rfl, q', h5⟩
  · rw [← h6] at h5 h7 ⊢
    refine (markF_any B ys _ (1 + X.length) w h5 (by omega) (by omega)).mono ?_
    rintro e w' ⟨rfl, hg, hz, hO⟩
    have hb : b < w.heap.size := (Array.getElem?_eq_some_iff.1 h3).1
    have hne : (Value.slice q ys.length c).ownBlock ≠ some b := by
      rcases h5.type h3 (by decide) with e | e
      · rw [e]; intro h; cases h
      · exact e
    have e := hg.block b hb (fun h => hne h.symm)
    refine ⟨rfl, (Below.refl _ _).grown hg hB (fun k hk => (h5.block k hk).1), owned_blk h2 e, OF.fs (B := B) (h4.blk fun k hk => hg.block k (h4.block k hk).2 fun he => h7 k he.symm hk), ?_⟩
    rw [← h6]
    exact OF.fs hO
  · have hL : L = [] := List.eq_nil_of_length_eq_zero (by simpa using h6.symm)
    subst hL
    simp only [List.length_nil, Value.slice.injEq, true_and] at h5
    obtain ⟨rfl, rfl⟩ := h5
    refine (mark0_any q (1 + X.length) w (by omega)).mono ?_
    rintro e w' ⟨rfl, rfl⟩
    exact ⟨by simp, Below.refl _ _, h2, OF.fs h4, q, 0, rfl, by simp, by simp [marks], fun i hi => by simp [marks] at hi⟩
end Go.Proofs.Ytjeeflldbhajiaa
