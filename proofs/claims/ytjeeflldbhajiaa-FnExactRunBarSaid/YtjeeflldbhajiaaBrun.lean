/-
  A run of a bar as a plain function: tick by tick, with what is molten. No condition but what each law says.
-/
import Derived.Test.YtjeeflldbhajiaaBgen
import Derived.Test.YtjeeflldbhajiaaBst
import Derived.Test.YtjeeflldbhajiaaSum
import Derived.Test.YtjeeflldbhajiaaBx
set_option linter.unusedSimpArgs false
set_option linter.unusedVariables false
set_option linter.unusedSectionVars false
namespace Go.Proofs.Ytjeeflldbhajiaa
open Go Go.RowKit
open Go.ChangeShapes Go.WideShapes Go.ChangeAt Go.RowKit Go.Joins
section
variable (s : St) (p l r : Nat) (b1 b2 : Bool) (t : Nat) (xs : List Nat)
def brX : Nat → List Nat
  | 0 => xs
  | k + 1 => stbX s p (brX k) l r b1 b2 t
def brM (k : Nat) : Bool := barOk s p (brX s p l r b1 b2 t xs (k + 1))
def brH (k : Nat) : Nat := meltB s p (brX s p l r b1 b2 t xs k)
def brO : Nat → Bool
  | 0 => true
  | k + 1 => brO k && brM s p l r b1 b2 t xs k
def brU : Nat → Bool
  | 0 => true
  | k + 1 => brU k && (brM s p l r b1 b2 t xs k && fin .f32 (brH s p l r b1 b2 t xs (k + 1)))
def brL (k : Nat) : List Nat := (List.range k).map fun j => brH s p l r b1 b2 t xs (j + 1)
def brPre (z : Int) : Bool := canB s p xs l r t && inB z 0 128
def brB (z : Int) : Bool := brPre s p l r t xs z && brU s p l r b1 b2 t xs z.toNat
end
def finC (L : List Nat) : Bool := !L.any fun x => !fin .f32 x
theorem finC_app (L : List Nat) (c : Nat) : finC (L ++ [c]) = (finC L && fin .f32 c) := by
  unfold finC
  rw [List.any_append]
  cases L.any fun x => !fin .f32 x <;> simp
section
variable {s : St} {p l r : Nat} {b1 b2 : Bool} {t : Nat} {xs : List Nat}
theorem brL_step (k : Nat) : brL s p l r b1 b2 t xs (k + 1) = brL s p l r b1 b2 t xs k ++ [brH s p l r b1 b2 t xs (k + 1)] := by unfold brL; rw [List.range_succ, List.map_append]; rfl
theorem brL_len (k : Nat) : (brL s p l r b1 b2 t xs k).length = k := by simp [brL]
theorem brU_eq (k : Nat) : brU s p l r b1 b2 t xs k = (brO s p l r b1 b2 t xs k && finC (brL s p l r b1 b2 t xs k)) := by
  induction k with
  | zero => rfl
  | succ k ih =>
    rw [brL_step, finC_app]
    show (brU s p l r b1 b2 t xs k && _) = (brO s p l r b1 b2 t xs k && brM s p l r b1 b2 t xs k && _)
    rw [ih]
    cases brO s p l r b1 b2 t xs k <;> cases finC (brL s p l r b1 b2 t xs k) <;> simp
theorem brU_stop {k n : Nat} (h : brU s p l r b1 b2 t xs k = false) (hkn : k ≤ n) : brU s p l r b1 b2 t xs n = false := by
  obtain ⟨d, rfl⟩ : ∃ d, n = k + d := ⟨n - k, by omega⟩
  induction d with
  | zero => exact h
  | succ d ih =>
    show (brU s p l r b1 b2 t xs (k + d) && _) = false
    rw [ih (by omega)]; rfl
theorem brO_stop {k n : Nat} (h : brO s p l r b1 b2 t xs k = false) (hkn : k ≤ n) : brU s p l r b1 b2 t xs n = false := brU_stop (by rw [brU_eq, h]; rfl) hkn
theorem brX_ok (hP : barOk s p xs = true) : ∀ k, brO s p l r b1 b2 t xs k = true → barOk s p (brX s p l r b1 b2 t xs k) = true
  | 0, _ => hP
  | k + 1, h => by
    have h1 : (brO s p l r b1 b2 t xs k && brM s p l r b1 b2 t xs k) = true := h
    rw [Bool.and_eq_true] at h1
    exact h1.2
theorem br_abs (hP : barOk s p xs = true) : ∃ (RK : Nat → List Nat) (MK UK OK : Nat → Bool) (HT : Nat → Nat) (LK : Nat → List Nat), (RK = brX s p l r b1 b2 t xs ∧ (∀ k, MK k = barOk s p (RK (k + 1))) ∧ (∀ k, RK (k + 1) = stbX s p (RK k) l r b1 b2 t) ∧ UK = brU s p l r b1 b2 t xs ∧ LK = brL s p l r b1 b2 t xs ∧ ∀ k, HT k = meltB s p (RK k)) ∧ (RK 0 = xs ∧ UK 0 = true ∧ OK 0 = true ∧ LK 0 = []) ∧ (∀ k, UK (k + 1) = (UK k && (MK k && fin .f32 (HT (k + 1))))) ∧ (∀ k, OK (k + 1) = (OK k && MK k)) ∧ (∀ k, UK k = (OK k && finC (LK k))) ∧ (∀ k, LK (k + 1) = LK k ++ [HT (k + 1)]) ∧ (∀ k, (LK k).length = k) ∧ (∀ k, OK k = true → barOk s p (RK k) = true) ∧ (∀ k m, UK k = false → k ≤ m → UK m = false) ∧ (∀ k m, OK k = false → k ≤ m → UK m = false) ∧ (∀ k, UK k = true → OK k = true) :=
  ⟨brX s p l r b1 b2 t xs, brM s p l r b1 b2 t xs, brU s p l r b1 b2 t xs, brO s p l r b1 b2 t xs, brH s p l r b1 b2 t xs, brL s p l r b1 b2 t xs, ⟨rfl, fun _ => rfl, fun _ => rfl, rfl, rfl, fun _ => rfl⟩, ⟨rfl, rfl, rfl, rfl⟩, fun _ => rfl, fun _ => rfl, brU_eq, brL_step, brL_len, brX_ok hP, fun _ _ => brU_stop, fun _ _ => brO_stop, fun k h => by rw [brU_eq, Bool.and_eq_true] at h; exact h.1⟩
theorem brB_no {z : Int} (h : brPre s p l r t xs z = false) : brB s p l r b1 b2 t xs z = false := by unfold brB; rw [h]; rfl
theorem brB_yes {z : Int} (h : brPre s p l r t xs z = true) : brB s p l r b1 b2 t xs z = brU s p l r b1 b2 t xs z.toNat := by unfold brB; rw [h]; rfl
/-- What may step at the beginning may step as long as the bar is valid. -/
theorem canB_next {ys : List Nat} (h : canB s p xs l r t = true) : canB s p ys l r t = barOk s p ys := by
  unfold canB at h ⊢
  rw [Bool.and_eq_true] at h
  rw [h.2, Bool.and_true]
end
/-- A bar's cells. -/
def barC (s : St) (p : Nat) (u : Value) : List Value := [.float .f32 s.a, .float .f32 s.b, .float .f32 s.c, .float .f32 s.d, .float .f32 s.p, .float .f32 s.l, .float .f32 p, u]
theorem barC_stored {w : World} {b : Nat} {s0 : St} {p0 : Nat} {u0 : Value} {s : St} {p : Nat} {u : Value} (h : owned w b (barC s0 p0 u0)) : owned (w.setCells b 0 (barC s p u)) b (barC s p u) := by
  have k0 := h 0 _ rfl
  have k1 := h 1 _ rfl
  have k2 := h 2 _ rfl
  have k3 := h 3 _ rfl
  have k4 := h 4 _ rfl
  have k5 := h 5 _ rfl
  have k6 := h 6 _ rfl
  have k7 := h 7 _ rfl
  intro k x hk
  unfold barC at hk ⊢
  simp only [World.setCells]
  match k, hk with
  | 0, hk => simp at hk; subst hk; exact ⟨by go_simp, by go_simp⟩
  | 1, hk => simp at hk; subst hk; exact ⟨by go_simp, by go_simp⟩
  | 2, hk => simp at hk; subst hk; exact ⟨by go_simp, by go_simp⟩
  | 3, hk => simp at hk; subst hk; exact ⟨by go_simp, by go_simp⟩
  | 4, hk => simp at hk; subst hk; exact ⟨by go_simp, by go_simp⟩
  | 5, hk => simp at hk; subst hk; exact ⟨by go_simp, by go_simp⟩
  | 6, hk => simp at hk; subst hk; exact ⟨by go_simp, by go_simp⟩
  | 7, hk => simp at hk; subst hk; exact ⟨by go_simp, by go_simp⟩
  | k + 8, hk => simp at hk
/-- Numbers beside a bar: own and apart, or none at all. -/
def HtAt (B : Nat) (wr : World) (b : Nat) (u : Value) (q : Option Addr) (c : Nat) (ys : List Nat) : Prop := (OF B wr (.slice q ys.length c) ys ∧ (∀ k, (Value.slice q ys.length c).ownBlock = some k → k ≠ b) ∧ ApV (.slice q ys.length c) u) ∨ (ys = [] ∧ c = 0)
theorem HtAt.later {B : Nat} {wr w' : World} {b : Nat} {u : Value} {q : Option Addr} {c : Nat} {ys : List Nat} (h : HtAt B wr b u q c ys) (hb : Below wr.heap.size wr w') : HtAt B w' b u q c ys := h.imp (fun h => ⟨h.1.later hb, h.2⟩) id
theorem HtAt.fs {B : Nat} {wr : World} {b : Nat} {u : Value} {q : Option Addr} {c : Nat} {ys : List Nat} (h : HtAt B wr b u q c ys) : FS wr (.slice q ys.length c) ys := by
  rcases h with h | ⟨rfl, rfl⟩
  · exact h.1.fs
  · exact ⟨q, 0, rfl, by simp, by simp, fun i hi => by simp at hi⟩
/-- Where numbers may turn. -/
theorem HtAt.row {B : Nat} {wr : World} {b : Nat} {u : Value} {q : Option Addr} {c : Nat} {ys : List Nat} (h : HtAt B wr b u q c ys) : ∃ g0 : Option Nat, (∀ k, g0 = some k → k ≠ b) ∧ (∀ k, g0 = some k → B ≤ k ∧ k < wr.heap.size) ∧ ((OF B wr (.slice q ys.length c) ys ∧ (Value.slice q ys.length c).ownBlock = g0) ∨ (ys = [] ∧ g0 = none ∧ ∃ p, (Value.slice q ys.length c) = .slice p 0 0)) := by
  rcases h with h | ⟨rfl, rfl⟩
  · exact ⟨_, h.2.1, fun k hk => h.1.block k hk, .inl ⟨h.1, rfl⟩⟩
  · exact ⟨none, fun k hk => (by cases hk), fun k hk => (by cases hk), .inr ⟨rfl, rfl, q, rfl⟩⟩
/-- A bar in a variable of the call's own, and own numbers. -/
def BrAt (B : Nat) (wr : World) (b : Nat) (s : St) (p : Nat) (X : List Nat) (q0 : Option Addr) (c0 : Nat) (q : Option Addr) (c : Nat) (ys : List Nat) : Prop := (owned wr b (barC s p (.slice q0 X.length c0)) ∧ B ≤ b) ∧ OF B wr (.slice q0 X.length c0) X ∧ HtAt B wr b (.slice q0 X.length c0) q c ys
/-- A bar, numbers and a bool: all own, all apart. -/
def BBL (w : World) (s : St) (p : Nat) (X L : List Nat) (b : Bool) (e : Ending) (w' : World) : Prop := ∃ q0 c0 q c ys, e = .returned (.tuple #[.agg #[.float .f32 s.a, .float .f32 s.b, .float .f32 s.c, .float .f32 s.d, .float .f32 s.p, .float .f32 s.l, .float .f32 p, .slice q0 X.length c0], .slice q ys.length c, .bool b]) ∧ Below w.heap.size w w' ∧ OF w.heap.size w' (.slice q0 X.length c0) X ∧ ((OF w.heap.size w' (.slice q ys.length c) ys ∧ ApV (.slice q ys.length c) (.slice q0 X.length c0)) ∨ (ys = [] ∧ c = 0)) ∧ ys.map (cn .f32) = L
theorem bbl_no {w w' : World} {e : Ending} (he : e = .returned (.tuple #[.agg #[.float .f32 0, .float .f32 0, .float .f32 0, .float .f32 0, .float .f32 0, .float .f32 0, .float .f32 0, .slice none 0 0], .slice none 0 0, .bool false])) (hb : Below w.heap.size w w') {s : St} {p : Nat} {X L : List Nat} {b : Bool} (h : b = false) : BBL w (bS b s) (bP b p) (bX b X) (bX b L) b e w' := by
  subst h
  exact ⟨none, 0, none, 0, [], he, hb, OF.nil0 _ _, .inr ⟨rfl, rfl⟩, rfl⟩
/-- The store of a tick's bar behind an append. -/
theorem brAt_put {B W b : Nat} {w3 u : World} {g0 : Option Nat} {s : St} {p : Nat} {X : List Nat} {q0 : Option Addr} {c0 : Nat} {q2 : Option Addr} {c2 : Nat} {ys2 : List Nat} {s' : St} {p' : Nat} {u' : Value} (h1 : w3.grownBy u g0) (ho : owned w3 b (barC s' p' u')) (hb : B ≤ b) (hgb : ∀ k, g0 = some k → k ≠ b) (hX : OF W w3 (.slice q0 X.length c0) X) (hW : b < W) (hBW : B ≤ W) (hg : ∀ k, g0 = some k → k < W) (hA : appP B w3.heap.size g0 ys2 (.slice q2 ys2.length c2) u) :
    BrAt B (u.setCells b 0 (barC s p (.slice q0 X.length c0))) b s p X q0 c0 q2 c2 ys2 := by
  have hlt : b < w3.heap.size := World.block_lt_of_cell? _ _ (ho 0 _ rfl).1
  have k1 : owned u b (barC s' p' u') := owned_kept ho h1 hlt hgb
  have k2 : OF W u (.slice q0 X.length c0) X := hX.blk fun k hk => h1.block k (hX.block k hk).2 (fun e => by have := hg k e.symm; have := (hX.block k hk).1; omega)
  have hne : ∀ k, (Value.slice q2 ys2.length c2).ownBlock = some k → k ≠ b := by
    intro k hk
    rcases hA.2 with h | h
    · exact hgb k (h.symm.trans hk)
    · have := h k hk; omega
  have hgs := grown_setCells b (barC s p (.slice q0 X.length c0)) 0 u
  refine ⟨⟨barC_stored k1, hb⟩, (k2.kept hgs ?_).base hBW, .inl ⟨hA.1.kept hgs ?_, hne, ?_⟩⟩
  · cases hu : (Value.slice q0 X.length c0).ownBlock with
    | none => exact .inl rfl
    | some k => exact .inr fun e => by have := (hX.block k hu).1; cases e; omega
  · cases hu : (Value.slice q2 ys2.length c2).ownBlock with
    | none => exact .inl rfl
    | some k => exact .inr fun e => hne k hu (by simpa using e)
  · intro k hk e
    have e1 := hX.block k e
    rcases hA.2 with h | h
    · have := hg k (h.symm.trans hk); omega
    · have := h k hk; omega
theorem BrAt.later {B : Nat} {wr w' : World} {b : Nat} {s : St} {p : Nat} {X : List Nat} {q0 : Option Addr} {c0 : Nat} {q : Option Addr} {c : Nat} {ys : List Nat} (h : BrAt B wr b s p X q0 c0 q c ys) (hb : Below wr.heap.size wr w') : BrAt B w' b s p X q0 c0 q c ys := ⟨⟨h.1.1.later hb, h.1.2⟩, h.2.1.later hb, h.2.2.later hb⟩
def brMk (B b : Nat) (s : St) (p : Nat) (X : List Nat) (q0 : Option Addr) (c0 : Nat) (ys2 : List Nat) (x : List Value) (u : World) : Prop := ∀ q c, Value.slice q ys2.length c ∈ x → BrAt B u b s p X q0 c0 q c ys2
theorem brMk_keeps (B b : Nat) (s : St) (p : Nat) (X : List Nat) (q0 : Option Addr) (c0 : Nat) (ys2 : List Nat) : Keeps (brMk B b s p X q0 c0 ys2) := fun x w w' h hb q c hm => (h q c hm).later hb
theorem bbe_no {w w' : World} {e : Ending} {s : St} {p : Nat} {X : List Nat} {b : Bool} (h : BBE w s p X b e w') (hb : b = false) : ∃ u, e = .returned (.tuple #[.agg #[.float .f32 0, .float .f32 0, .float .f32 0, .float .f32 0, .float .f32 0, .float .f32 0, .float .f32 0, u], .bool false]) ∧ Below w.heap.size w w' ∧ OF w.heap.size w' u [] := by
  obtain ⟨b', u, xs, ⟨rfl, rfl⟩, rfl, h1, h2⟩ := h
  subst hb
  exact ⟨u, rfl, h1, h2⟩
theorem bbe_yes {w w' : World} {e : Ending} {s : St} {p : Nat} {X : List Nat} {b : Bool} (h : BBE w s p X b e w') (hb : b = true) : ∃ u, e = .returned (.tuple #[.agg #[.float .f32 s.a, .float .f32 s.b, .float .f32 s.c, .float .f32 s.d, .float .f32 s.p, .float .f32 s.l, .float .f32 p, u], .bool true]) ∧ Below w.heap.size w w' ∧ OF w.heap.size w' u X := by
  obtain ⟨b', u, xs, ⟨rfl, rfl⟩, rfl, h1, h2⟩ := h
  subst hb
  exact ⟨u, rfl, h1, h2⟩
/-- The bar that the run begins with. -/
def bcM (B : Nat) (s : St) (p : Nat) (X : List Nat) (x : List Value) (u : World) : Prop := ∀ b q0 c0, x.head? = some (Value.pointer (some ⟨b, 0, none⟩)) → Value.agg #[.float .f32 s.a, .float .f32 s.b, .float .f32 s.c, .float .f32 s.d, .float .f32 s.p, .float .f32 s.l, .float .f32 p, .slice q0 X.length c0] ∈ x → (owned u b (barC s p (.slice q0 X.length c0)) ∧ B ≤ b) ∧ OF B u (.slice q0 X.length c0) X
theorem bcM_keeps (B : Nat) (s : St) (p : Nat) (X : List Nat) : Keeps (bcM B s p X) := fun x w w' h hb b q0 c0 h1 h2 => ⟨⟨(h b q0 c0 h1 h2).1.1.later hb, (h b q0 c0 h1 h2).1.2⟩, (h b q0 c0 h1 h2).2.later hb⟩
theorem bar_put {B : Nat} {s : St} {p : Nat} {X : List Nat} {q0 : Option Addr} {c0 : Nat} {u : World} {b : Nat} (h1 : OF B u (.slice q0 X.length c0) X) (h2 : vtK B [.float .f32 0, .float .f32 0, .float .f32 0, .float .f32 0, .float .f32 0, .float .f32 0, .float .f32 0, .slice none 0 0] 32 (.pointer (some ⟨b, 0, none⟩)) u) : (owned (u.setCells b 0 (barC s p (.slice q0 X.length c0))) b (barC s p (.slice q0 X.length c0)) ∧ B ≤ b) ∧ OF B (u.setCells b 0 (barC s p (.slice q0 X.length c0))) (.slice q0 X.length c0) X := by
  obtain ⟨⟨g1, g2⟩, g3⟩ := h2 b rfl
  exact ⟨⟨barC_stored (s0 := St0) (p0 := 0) (u0 := .slice none 0 0) g2, g1⟩, h1.kept (grown_setCells b _ 0 u) (h1.type g3 (by decide))⟩
end Go.Proofs.Ytjeeflldbhajiaa
