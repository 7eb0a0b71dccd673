/-
  A run of a rod as a plain function: tick by tick, with the heats. No condition but what each law says.
-/
import Derived.Test.YtgkcfeaknehopaaPrRwE
import Derived.Test.YtgkcfeaknehopaaPrStep
import Derived.Test.YtgkcfeaknehopaaPrRdSum
import Derived.Test.YtgkcfeaknehopaaPrGap
set_option linter.unusedSimpArgs false
set_option linter.unusedVariables false
set_option linter.unusedSectionVars false
namespace Go.Proofs.Ytgkcfeaknehopaa
open Go Go.RowKit
open Go.ChangeShapes Go.WideShapes Go.ChangeAt Go.RowKit Go.Joins
def mvR (rows : Bool) (E G : EndT) (t : Nat) (P : Rd) : Rd := if rows then rwsR P E G t else stepR P E G t
def mvOk (rows : Bool) (E G : EndT) (t : Nat) (P : Rd) : Bool := if rows then rwsOk P E G t else stepOk P E G t
theorem mvOk_ok {rows : Bool} {E G : EndT} {t : Nat} {P : Rd} (h : mvOk rows E G t P = true) : (mvR rows E G t P).ok = true := by
  cases rows
  · show (stepR P E G t).ok = true
    have h1 : (stepPre P E G t && (stepR P E G t).ok) = true := h
    rw [Bool.and_eq_true] at h1
    exact h1.2
  · show (rwsR P E G t).ok = true
    have h1 : (rwsPre P E G t && (rwsR P E G t).ok) = true := h
    rw [Bool.and_eq_true] at h1
    exact h1.2
def htV (R : Rd) : Nat := heatK R R.a.length
def runR (rows : Bool) (E G : EndT) (t : Nat) (P : Rd) : Nat → Rd
  | 0 => P
  | k + 1 => mvR rows E G t (runR rows E G t P k)
def runS (rows : Bool) (E G : EndT) (t : Nat) (P : Rd) (k : Nat) : Bool := mvOk rows E G t (runR rows E G t P k) && fin .f32 (htV (runR rows E G t P (k + 1)))
def runU (rows : Bool) (E G : EndT) (t : Nat) (P : Rd) : Nat → Bool
  | 0 => true
  | k + 1 => runU rows E G t P k && runS rows E G t P k
def runO (rows : Bool) (E G : EndT) (t : Nat) (P : Rd) : Nat → Bool
  | 0 => true
  | k + 1 => runO rows E G t P k && mvOk rows E G t (runR rows E G t P k)
def runL (rows : Bool) (E G : EndT) (t : Nat) (P : Rd) (k : Nat) : List Nat := (List.range k).map fun j => htV (runR rows E G t P (j + 1))
def finC (L : List Nat) : Bool := !L.any fun x => !fin .f32 x
section
variable {rows : Bool} {E G : EndT} {t : Nat} {P : Rd}
theorem runL_step (k : Nat) : runL rows E G t P (k + 1) = runL rows E G t P k ++ [htV (runR rows E G t P (k + 1))] := by unfold runL; rw [List.range_succ, List.map_append]; rfl
theorem runL_len (k : Nat) : (runL rows E G t P k).length = k := by simp [runL]
theorem finC_app (L : List Nat) (c : Nat) : finC (L ++ [c]) = (finC L && fin .f32 c) := by
  unfold finC
  rw [List.any_append]
  cases L.any fun x => !fin .f32 x <;> simp
theorem runU_eq (k : Nat) : runU rows E G t P k = (runO rows E G t P k && finC (runL rows E G t P k)) := by
  induction k with
  | zero => rfl
  | succ k ih =>
    rw [runL_step, finC_app]
    show (runU rows E G t P k && runS rows E G t P k) = (runO rows E G t P k && mvOk rows E G t (runR rows E G t P k) && _)
    rw [ih]
    unfold runS
    cases runO rows E G t P k <;> cases finC (runL rows E G t P k) <;> simp
theorem runU_stop {k n : Nat} (h : runU rows E G t P k = false) (hkn : k ≤ n) : runU rows E G t P n = false := by
  obtain ⟨d, rfl⟩ : ∃ d, n = k + d := ⟨n - k, by omega⟩
  induction d with
  | zero => exact h
  | succ d ih =>
    show (runU rows E G t P (k + d) && _) = false
    rw [ih (by omega)]; rfl
theorem runO_stop {k n : Nat} (h : runO rows E G t P k = false) (hkn : k ≤ n) : runU rows E G t P n = false :=
  runU_stop (by rw [runU_eq, h]; rfl) hkn
theorem runR_ok (hP : P.ok = true) : ∀ k, runO rows E G t P k = true → (runR rows E G t P k).ok = true
  | 0, _ => hP
  | k + 1, h => by
    have h1 : (runO rows E G t P k && mvOk rows E G t (runR rows E G t P k)) = true := h
    rw [Bool.and_eq_true] at h1
    exact mvOk_ok h1.2
theorem runU_O {k : Nat} (h : runU rows E G t P k = true) : runO rows E G t P k = true := by rw [runU_eq, Bool.and_eq_true] at h; exact h.1
end
def okL (b : Bool) (L : List Nat) : List Nat := if b then L else []
def runPre (rows : Bool) (E G : EndT) (t : Nat) (n : Int) (P : Rd) : Bool := endsOk P E G && lst (cn .f32 t) && (!rows || !feq .f32 (cn .f32 t) (cn .f32 0)) && inB n 0 128
def runB (rows : Bool) (E G : EndT) (t : Nat) (n : Int) (P : Rd) : Bool := runPre rows E G t n P && runU rows E G t P n.toNat
theorem runB_no {rows : Bool} {E G : EndT} {t : Nat} {n : Int} {P : Rd} (h : runPre rows E G t n P = false) : runB rows E G t n P = false := by unfold runB; rw [h]; rfl
theorem runB_yes {rows : Bool} {E G : EndT} {t : Nat} {n : Int} {P : Rd} (h : runPre rows E G t n P = true) : runB rows E G t n P = runU rows E G t P n.toNat := by unfold runB; rw [h]; rfl
theorem run_abs (rows : Bool) (E G : EndT) (t : Nat) (P : Rd) (hP : P.ok = true) : ∃ (RK : Nat → Rd) (MK UK OK : Nat → Bool) (LK : Nat → List Nat), (RK = runR rows E G t P ∧ (∀ k, MK k = mvOk rows E G t (RK k)) ∧ (∀ k, RK (k + 1) = mvR rows E G t (RK k)) ∧ UK = runU rows E G t P ∧ LK = runL rows E G t P) ∧ (RK 0 = P ∧ UK 0 = true ∧ OK 0 = true ∧ LK 0 = []) ∧ (∀ k, UK (k + 1) = (UK k && (MK k && fin .f32 (htV (RK (k + 1)))))) ∧ (∀ k, OK (k + 1) = (OK k && MK k)) ∧ (∀ k, UK k = (OK k && finC (LK k))) ∧ (∀ k, LK (k + 1) = LK k ++ [htV (RK (k + 1))]) ∧ (∀ k, (LK k).length = k) ∧ (∀ k, OK k = true → (RK k).ok = true) ∧ (∀ k m, UK k = false → k ≤ m → UK m = false) ∧ (∀ k m, OK k = false → k ≤ m → UK m = false) ∧ (∀ k, MK k = true → (RK (k + 1)).ok = true) ∧ (∀ k, UK k = true → OK k = true) :=
  ⟨runR rows E G t P, fun k => mvOk rows E G t (runR rows E G t P k), runU rows E G t P, runO rows E G t P, runL rows E G t P, ⟨rfl, fun _ => rfl, fun _ => rfl, rfl, rfl⟩, ⟨rfl, rfl, rfl, rfl⟩, fun _ => rfl, fun _ => rfl, runU_eq, runL_step, runL_len, runR_ok hP, fun _ _ => runU_stop, fun _ _ => runO_stop, fun _ => mvOk_ok, fun _ => runU_O⟩
/-- What was there is there, but for two blocks. -/
structure K2 (w0 : World) (g : Option Nat) (b : Nat) (u : World) : Prop where
  os : u.os = w0.os
  tape : u.tape = w0.tape
  output : u.output = w0.output
  size : w0.heap.size ≤ u.heap.size
  block : ∀ k, k < w0.heap.size → some k ≠ g → k ≠ b → u.heap[k]? = w0.heap[k]?
theorem K2.later {w0 : World} {g : Option Nat} {b : Nat} {u v : World} (h : K2 w0 g b u) (hb : Below u.heap.size u v) : K2 w0 g b v :=
  ⟨hb.os.trans h.os, hb.tape.trans h.tape, hb.output.trans h.output, Nat.le_trans h.size hb.size, fun k hk h1 h2 => (hb.block k (Nat.lt_of_lt_of_le hk h.size)).trans (h.block k hk h1 h2)⟩
theorem grown_later {w0 : World} {g : Option Nat} {u v : World} (h : w0.grownBy u g) (hb : Below u.heap.size u v) : w0.grownBy v g :=
  ⟨hb.os.trans h.os, hb.tape.trans h.tape, hb.output.trans h.output, Nat.le_trans h.size hb.size, fun k hk h1 => (hb.block k (Nat.lt_of_lt_of_le hk h.size)).trans (h.block k hk h1)⟩
theorem below_grown2 {w0 : World} {g : Option Nat} {u v : World} (hb : Below w0.heap.size w0 u) (h : u.grownBy v g) : w0.grownBy v g :=
  ⟨h.os.trans hb.os, h.tape.trans hb.tape, h.output.trans hb.output, Nat.le_trans hb.size h.size, fun k hk h1 => (h.block k (Nat.lt_of_lt_of_le hk hb.size) h1).trans (hb.block k hk)⟩
theorem K2.of {w0 : World} {g : Option Nat} {b : Nat} {u : World} (h : w0.grownBy u g) (o : Nat) (vs : List Value) : K2 w0 g b (u.setCells b o vs) := by
  have h2 := grown_setCells b vs o u
  exact ⟨h2.os.trans h.os, h2.tape.trans h.tape, h2.output.trans h.output, Nat.le_trans h.size h2.size, fun k hk h1 h3 => (h2.block k (Nat.lt_of_lt_of_le hk h.size) (by simpa using h3)).trans (h.block k hk h1)⟩
theorem K2.below {w0 : World} {g : Option Nat} {b B : Nat} {u : World} (h : K2 w0 g b u) (h0 : B ≤ w0.heap.size) (hg : ∀ k, g = some k → B ≤ k) (hb : B ≤ b) : Below B w0 u :=
  ⟨h.os, h.tape, h.output, h.size, fun k hk => h.block k (by omega) (fun e => by have := hg k e.symm; omega) (by omega)⟩
def ApS (q : Option Addr) (m : RL) : Prop := Ap q m.p1 ∧ Ap q m.p2 ∧ Ap q m.p3 ∧ Ap q m.p4
/-- A rod in a variable of the call's own, and own numbers. -/
def RunAt (B : Nat) (wr : World) (b : Nat) (R : Rd) (m : RL) (q : Option Addr) (c : Nat) (ys : List Nat) : Prop := (owned wr b [.slice m.p1 R.a.length m.c1, .slice m.p2 R.b.length m.c2, .slice m.p3 R.c.length m.c3, .slice m.p4 R.d.length m.c4] ∧ B ≤ b) ∧ RdA B wr R m ∧ OF B wr (.slice q ys.length c) ys ∧ (∀ k, (Value.slice q ys.length c).ownBlock = some k → k ≠ b) ∧ ApS q m
theorem RunAt.later {B : Nat} {wr w' : World} {b : Nat} {R : Rd} {m : RL} {q : Option Addr} {c : Nat} {ys : List Nat} (h : RunAt B wr b R m q c ys) (hb : Below wr.heap.size wr w') : RunAt B w' b R m q c ys :=
  ⟨⟨h.1.1.later hb, h.1.2⟩, h.2.1.later hb, h.2.2.1.later hb, h.2.2.2⟩
theorem RdA.kept {B : Nat} {w w' : World} {R : Rd} {m : RL} {g : Option Nat} (h : RdA B w R m) (hg : w.grownBy w' g) (hlt : ∀ k, g = some k → k < B) : RdA B w' R m := by
  have key : ∀ {u xs}, OF B w u xs → u.ownBlock = none ∨ u.ownBlock ≠ g := fun {u xs} h1 => by
    cases hu : u.ownBlock with
    | none => exact .inl rfl
    | some k =>
      refine .inr fun e => ?_
      have h2 := (h1.block k hu).1
      have := hlt k e.symm
      omega
  exact ⟨⟨h.1.1.kept hg (key h.1.1), h.1.2.1.kept hg (key h.1.2.1), h.1.2.2.1.kept hg (key h.1.2.2.1), h.1.2.2.2.kept hg (key h.1.2.2.2)⟩, h.2⟩
theorem owned_kept {w w' : World} {b : Nat} {xs : List Value} {g : Option Nat} (h : owned w b xs) (hg : w.grownBy w' g) (hlt : b < w.heap.size) (hne : ∀ k, g = some k → k ≠ b) : owned w' b xs := by
  have e := hg.block b hlt (fun e => hne b e.symm rfl)
  exact fun k x hk => ⟨(World.cell?_of_block (a := ⟨b, k, none⟩) e).trans (h k x hk).1, (World.frozen?_of_block (a := ⟨b, k, none⟩) e).trans (h k x hk).2⟩
theorem runAt_put {B W b : Nat} {w3 u : World} {g0 : Option Nat} {R1 : Rd} {mq : RL} {q2 : Option Addr} {c2 : Nat} {ys2 : List Nat} {x0 x1 x2 x3 : Value} (h1 : w3.grownBy u g0) (ho : owned w3 b [x0, x1, x2, x3]) (hb : B ≤ b) (hgb : ∀ k, g0 = some k → k ≠ b) (hX : RdX W w3.heap.size w3 R1 mq) (hW : b < W) (hg : ∀ k, g0 = some k → k < W) (hA : appP B w3.heap.size g0 ys2 (.slice q2 ys2.length c2) u) :
    RunAt B (u.setCells b 0 [.slice mq.p1 R1.a.length mq.c1, .slice mq.p2 R1.b.length mq.c2, .slice mq.p3 R1.c.length mq.c3, .slice mq.p4 R1.d.length mq.c4]) b R1 mq q2 c2 ys2 := by
  have hlt : b < w3.heap.size := World.block_lt_of_cell? _ _ (ho 0 x0 rfl).1
  have k1 : owned u b [x0, x1, x2, x3] := owned_kept ho h1 hlt hgb
  have k2 : RdA W u R1 mq := (hX.ra (Nat.le_refl _)).kept h1 hg
  have k3 := k2.low hW 0 [.slice mq.p1 R1.a.length mq.c1, .slice mq.p2 R1.b.length mq.c2, .slice mq.p3 R1.c.length mq.c3, .slice mq.p4 R1.d.length mq.c4]
  have hne : ∀ k, (Value.slice q2 ys2.length c2).ownBlock = some k → k ≠ b := by
    intro k hk
    rcases hA.2 with h | h
    · exact hgb k (h.symm.trans hk)
    · have := h k hk; omega
  have hap : ∀ {v : Value} {xs : List Nat} {p : Option Addr} {nn cc : Nat}, v = .slice p nn cc → OF W w3 v xs → (∀ k, v.ownBlock = some k → k < w3.heap.size) → Ap q2 p := by
    rintro v xs p nn cc rfl hO hS a a' rfl rfl e
    have e1 := (hO.block a'.block rfl).1
    have e2 := hS a'.block rfl
    rcases hA.2 with h | h
    · have := hg a.block (h.symm.trans rfl); omega
    · have := h a.block rfl; omega
  refine ⟨⟨owned_stored k1, hb⟩, ⟨k3.1.base (by omega), k3.2⟩, hA.1.kept (grown_setCells b _ 0 u) ?_, hne, hap rfl hX.1.1.1 hX.1.2.1, hap rfl hX.1.1.2.1 hX.1.2.2.1, hap rfl hX.1.1.2.2.1 hX.1.2.2.2.1, hap rfl hX.1.1.2.2.2 hX.1.2.2.2.2⟩
  cases hu : (Value.slice q2 ys2.length c2).ownBlock with
  | none => exact .inl rfl
  | some k => exact .inr fun e => hne k hu (by simpa using e)
/-- What the store of a tick's rod tells. -/
def runM (B b : Nat) (R1 : Rd) (mq : RL) (ys2 : List Nat) (x : List Value) (u : World) : Prop := ∀ q c, Value.slice q ys2.length c ∈ x → RunAt B u b R1 mq q c ys2
theorem runM_keeps (B b : Nat) (R1 : Rd) (mq : RL) (ys2 : List Nat) : Keeps (runM B b R1 mq ys2) := fun x w w' h hb q c hm => (h q c hm).later hb
/-- A rod, numbers and a bool: all own, all apart. -/
def BRL (w : World) (R : Rd) (L : List Nat) (b : Bool) (e : Ending) (w' : World) : Prop := ∃ m q c ys, e = .returned (.tuple #[.agg #[.slice m.p1 R.a.length m.c1, .slice m.p2 R.b.length m.c2, .slice m.p3 R.c.length m.c3, .slice m.p4 R.d.length m.c4], .slice q ys.length c, .bool b]) ∧ Below w.heap.size w w' ∧ RdX w.heap.size w'.heap.size w' R m ∧ OF w.heap.size w' (.slice q ys.length c) ys ∧ ys.map (cn .f32) = L ∧ ApS q m
theorem brb_of2 {w w' : World} {e : Ending} {R0 : Rd} {b0 : Bool} (h : ∃ R m b, (R = okR b R0 ∧ b = b0) ∧ e = .returned (.tuple #[.agg #[.slice m.p1 R.a.length m.c1, .slice m.p2 R.b.length m.c2, .slice m.p3 R.c.length m.c3, .slice m.p4 R.d.length m.c4], .bool b]) ∧ Below w.heap.size w w' ∧ RdX w.heap.size w'.heap.size w' R m) : BRB w (okR b0 R0) b0 e w' := by
  obtain ⟨R, m, b, ⟨h1, rfl⟩, rfl, hb, hX⟩ := h
  subst h1
  exact ⟨m, rfl, hb, hX⟩
theorem ApS.nil (q : Option Addr) : ApS q nilRL := by
  refine ⟨?_, ?_, ?_, ?_⟩ <;> (intro a b h1 h2; cases h2)
theorem brl_no {w w' : World} {e : Ending} (he : e = .returned (.tuple #[.agg #[.slice none 0 0, .slice none 0 0, .slice none 0 0, .slice none 0 0], .slice none 0 0, .bool false])) (hb : Below w.heap.size w w') {R : Rd} {L : List Nat} {b : Bool} (h : b = false) : BRL w (okR b R) (okL b L) b e w' := by
  subst h
  exact ⟨nilRL, none, 0, [], he, hb, nilRd_rx _ _ _, OF.nil0 _ _, rfl, ApS.nil _⟩
end Go.Proofs.Ytgkcfeaknehopaa
