/-
  A run of a bar as a plain function: tick by tick, with what is molten. No condition but what each law says.
  Drawn bars that are shut: a tick, and ticks one after another: heat is kept, nearly, and bars stay valid. No condition but what each law says; nothing of the program is named here.
  Drawn bars that are shut, on: runs; bars stay valid; how much is molten; the heat in a bar. No condition but what each law says; nothing of the program is named here.
  Drawn stuffs, on: how warm a heat makes them, and back. No condition but what each law says.
  Drawn stuffs, on: what the law on stuffs asks of heats, warmths and parts. No condition but what each law says.
  Drawn stuffs, on: the heat that a warmth and a part come to; how easily heat flows. No condition but what each law says.
  Drawn stuffs, in 64 bits: gaps, the lesser and the greater; all that the law on stuffs asks. No condition but what each law says.
  Drawn bars, on: gaps in 64 bits; which ticks are allowed; runs go through; even bars stay as they are. No condition but what each law says; nothing of the program is named here.
  Drawn bars, on: even bars: their heat, their warmth; nothing flows in them. No condition but what each law says; nothing of the program is named here.
  Rounding keeps order: no number of the format is nearer than the rounded one. No condition but what each law says; nothing of the program is named here.
  Drawn bars: all that the law on bars asks, on words. No condition but what each law says; nothing of the program is named here.
-/
import Derived.Test.YtjeeflldbhajiaaBM5
import Derived.Test.YtjeeflldbhajiaaBM6
import Derived.Test.YtjeeflldbhajiaaBM4
set_option linter.unusedSimpArgs false
set_option linter.unusedVariables false
set_option linter.unusedSectionVars false
namespace Go.Proofs.Ytjeeflldbhajiaa
open Go Go.RowKit
open Go.ChangeShapes Go.WideShapes Go.ChangeAt Go.RowKit Go.Joins
section
variable (s : St) (p l r : Nat) (b1 b2 : Bool) (t : Nat) (xs : List Nat)
def brX : Nat → List Nat
  | 0 => xs
  | k + 1 => stbX s p (brX k) l r b1 b2 t
def brM (k : Nat) : Bool := barOk s p (brX s p l r b1 b2 t xs (k + 1))
def brH (k : Nat) : Nat := meltB s p (brX s p l r b1 b2 t xs k)
def brO : Nat → Bool
  | 0 => true
  | k + 1 => brO k && brM s p l r b1 b2 t xs k
def brU : Nat → Bool
  | 0 => true
  | k + 1 => brU k && (brM s p l r b1 b2 t xs k && fin .f32 (brH s p l r b1 b2 t xs (k + 1)))
def brL (k : Nat) : List Nat := (List.range k).map fun j => brH s p l r b1 b2 t xs (j + 1)
def brPre (z : Int) : Bool := canB s p xs l r t && inB z 0 128
def brB (z : Int) : Bool := brPre s p l r t xs z && brU s p l r b1 b2 t xs z.toNat
end
def finC (L : List Nat) : Bool := !L.any fun x => !fin .f32 x
theorem finC_app (L : List Nat) (c : Nat) : finC (L ++ [c]) = (finC L && fin .f32 c) := by
  unfold finC
  rw [List.any_append]
  cases L.any fun x => !fin .f32 x <;> simp
section
variable {s : St} {p l r : Nat} {b1 b2 : Bool} {t : Nat} {xs : List Nat}
theorem brL_step (k : Nat) : brL s p l r b1 b2 t xs (k + 1) = brL s p l r b1 b2 t xs k ++ [brH s p l r b1 b2 t xs (k + 1)] := by unfold brL; rw [List.range_succ, List.map_append]; rfl
theorem brL_len (k : Nat) : (brL s p l r b1 b2 t xs k).length = k := by simp [brL]
theorem brU_eq (k : Nat) : brU s p l r b1 b2 t xs k = (brO s p l r b1 b2 t xs k && finC (brL s p l r b1 b2 t xs k)) := by
  induction k with
  | zero => rfl
  | succ k ih =>
    rw [brL_step, finC_app]
    show (brU s p l r b1 b2 t xs k && _) = (brO s p l r b1 b2 t xs k && brM s p l r b1 b2 t xs k && _)
    rw [ih]
    cases brO s p l r b1 b2 t xs k <;> cases finC (brL s p l r b1 b2 t xs k) <;> simp
theorem brU_stop {k n : Nat} (h : brU s p l r b1 b2 t xs k = false) (hkn : k ≤ n) : brU s p l r b1 b2 t xs n = false := by
  obtain ⟨d, rfl⟩ : ∃ d, n = k + d := ⟨n - k, by omega⟩
  induction d with
  | zero => exact h
  | succ d ih =>
    show (brU s p l r b1 b2 t xs (k + d) && _) = false
    rw [ih (by omega)]; rfl
theorem brO_stop {k n : Nat} (h : brO s p l r b1 b2 t xs k = false) (hkn : k ≤ n) : brU s p l r b1 b2 t xs n = false := brU_stop (by rw [brU_eq, h]; rfl) hkn
theorem brX_ok (hP : barOk s p xs = true) : ∀ k, brO s p l r b1 b2 t xs k = true → barOk s p (brX s p l r b1 b2 t xs k) = true
  | 0, _ => hP
  | k + 1, h => by
    have h1 : (brO s p l r b1 b2 t xs k && brM s p l r b1 b2 t xs k) = true := h
    rw [Bool.and_eq_true] at h1
    exact h1.2
theorem br_abs (hP : barOk s p xs = true) : ∃ (RK : Nat → List Nat) (MK UK OK : Nat → Bool) (HT : Nat → Nat) (LK : Nat → List Nat), (RK = brX s p l r b1 b2 t xs ∧ (∀ k, MK k = barOk s p (RK (k + 1))) ∧ (∀ k, RK (k + 1) = stbX s p (RK k) l r b1 b2 t) ∧ UK = brU s p l r b1 b2 t xs ∧ LK = brL s p l r b1 b2 t xs ∧ ∀ k, HT k = meltB s p (RK k)) ∧ (RK 0 = xs ∧ UK 0 = true ∧ OK 0 = true ∧ LK 0 = []) ∧ (∀ k, UK (k + 1) = (UK k && (MK k && fin .f32 (HT (k + 1))))) ∧ (∀ k, OK (k + 1) = (OK k && MK k)) ∧ (∀ k, UK k = (OK k && finC (LK k))) ∧ (∀ k, LK (k + 1) = LK k ++ [HT (k + 1)]) ∧ (∀ k, (LK k).length = k) ∧ (∀ k, OK k = true → barOk s p (RK k) = true) ∧ (∀ k m, UK k = false → k ≤ m → UK m = false) ∧ (∀ k m, OK k = false → k ≤ m → UK m = false) ∧ (∀ k, UK k = true → OK k = true) :=
  ⟨brX s p l r b1 b2 t xs, brM s p l r b1 b2 t xs, brU s p l r b1 b2 t xs, brO s p l r b1 b2 t xs, brH s p l r b1 b2 t xs, brL s p l r b1 b2 t xs, ⟨rfl, fun _ => rfl, fun _ => rfl, rfl, rfl, fun _ => rfl⟩, ⟨rfl, rfl, rfl, rfl⟩, fun _ => rfl, fun _ => rfl, brU_eq, brL_step, brL_len, brX_ok hP, fun _ _ => brU_stop, fun _ _ => brO_stop, fun k h => by rw [brU_eq, Bool.and_eq_true] at h; exact h.1⟩
theorem brB_no {z : Int} (h : brPre s p l r t xs z = false) : brB s p l r b1 b2 t xs z = false := by unfold brB; rw [h]; rfl
theorem brB_yes {z : Int} (h : brPre s p l r t xs z = true) : brB s p l r b1 b2 t xs z = brU s p l r b1 b2 t xs z.toNat := by unfold brB; rw [h]; rfl
/-- What may step at the beginning may step as long as the bar is valid. -/
theorem canB_next {ys : List Nat} (h : canB s p xs l r t = true) : canB s p ys l r t = barOk s p ys := by
  unfold canB at h ⊢
  rw [Bool.and_eq_true] at h
  rw [h.2, Bool.and_true]
end
/-- A bar's cells. -/
def barC (s : St) (p : Nat) (u : Value) : List Value := [.float .f32 s.a, .float .f32 s.b, .float .f32 s.c, .float .f32 s.d, .float .f32 s.p, .float .f32 s.l, .float .f32 p, u]
theorem barC_stored {w : World} {b : Nat} {s0 : St} {p0 : Nat} {u0 : Value} {s : St} {p : Nat} {u : Value} (h : owned w b (barC s0 p0 u0)) : owned (w.setCells b 0 (barC s p u)) b (barC s p u) := by
  have k0 := h 0 _ rfl
  have k1 := h 1 _ rfl
  have k2 := h 2 _ rfl
  have k3 := h 3 _ rfl
  have k4 := h 4 _ rfl
  have k5 := h 5 _ rfl
  have k6 := h 6 _ rfl
  have k7 := h 7 _ rfl
  intro k x hk
  unfold barC at hk ⊢
  simp only [World.setCells]
  match k, hk with
  | 0, hk => simp at hk; subst hk; exact ⟨by go_simp, by go_simp⟩
  | 1, hk => simp at hk; subst hk; exact ⟨by go_simp, by go_simp⟩
  | 2, hk => simp at hk; subst hk; exact ⟨by go_simp, by go_simp⟩
  | 3, hk => simp at hk; subst hk; exact ⟨by go_simp, by go_simp⟩
  | 4, hk => simp at hk; subst hk; exact ⟨by go_simp, by go_simp⟩
  | 5, hk => simp at hk; subst hk; exact ⟨by go_simp, by go_simp⟩
  | 6, hk => simp at hk; subst hk; exact ⟨by go_simp, by go_simp⟩
  | 7, hk => simp at hk; subst hk; exact ⟨by go_simp, by go_simp⟩
  | k + 8, hk => simp at hk
/-- Numbers beside a bar: own and apart, or none at all. -/
def HtAt (B : Nat) (wr : World) (b : Nat) (u : Value) (q : Option Addr) (c : Nat) (ys : List Nat) : Prop := (OF B wr (.slice q ys.length c) ys ∧ (∀ k, (Value.slice q ys.length c).ownBlock = some k → k ≠ b) ∧ ApV (.slice q ys.length c) u) ∨ (ys = [] ∧ c = 0)
theorem HtAt.later {B : Nat} {wr w' : World} {b : Nat} {u : Value} {q : Option Addr} {c : Nat} {ys : List Nat} (h : HtAt B wr b u q c ys) (hb : Below wr.heap.size wr w') : HtAt B w' b u q c ys := h.imp (fun h => ⟨h.1.later hb, h.2⟩) id
theorem HtAt.fs {B : Nat} {wr : World} {b : Nat} {u : Value} {q : Option Addr} {c : Nat} {ys : List Nat} (h : HtAt B wr b u q c ys) : FS wr (.slice q ys.length c) ys := by
  rcases h with h | ⟨rfl, rfl⟩
  · exact h.1.fs
  · exact ⟨q, 0, rfl, by simp, by simp, fun i hi => by simp at hi⟩
/-- Where numbers may turn. -/
theorem HtAt.row {B : Nat} {wr : World} {b : Nat} {u : Value} {q : Option Addr} {c : Nat} {ys : List Nat} (h : HtAt B wr b u q c ys) : ∃ g0 : Option Nat, (∀ k, g0 = some k → k ≠ b) ∧ (∀ k, g0 = some k → B ≤ k ∧ k < wr.heap.size) ∧ ((OF B wr (.slice q ys.length c) ys ∧ (Value.slice q ys.length c).ownBlock = g0) ∨ (ys = [] ∧ g0 = none ∧ ∃ p, (Value.slice q ys.length c) = .slice p 0 0)) := by
  rcases h with h | ⟨rfl, rfl⟩
  · exact ⟨_, h.2.1, fun k hk => h.1.block k hk, .inl ⟨h.1, rfl⟩⟩
  · exact ⟨none, fun k hk => (by cases hk), fun k hk => (by cases hk), .inr ⟨rfl, rfl, q, rfl⟩⟩
/-- A bar in a variable of the call's own, and own numbers. -/
def BrAt (B : Nat) (wr : World) (b : Nat) (s : St) (p : Nat) (X : List Nat) (q0 : Option Addr) (c0 : Nat) (q : Option Addr) (c : Nat) (ys : List Nat) : Prop := (owned wr b (barC s p (.slice q0 X.length c0)) ∧ B ≤ b) ∧ OF B wr (.slice q0 X.length c0) X ∧ HtAt B wr b (.slice q0 X.length c0) q c ys
/-- A bar, numbers and a bool: all own, all apart. -/
def BBL (w : World) (s : St) (p : Nat) (X L : List Nat) (b : Bool) (e : Ending) (w' : World) : Prop := ∃ q0 c0 q c ys, e = .returned (.tuple #[.agg #[.float .f32 s.a, .float .f32 s.b, .float .f32 s.c, .float .f32 s.d, .float .f32 s.p, .float .f32 s.l, .float .f32 p, .slice q0 X.length c0], .slice q ys.length c, .bool b]) ∧ Below w.heap.size w w' ∧ OF w.heap.size w' (.slice q0 X.length c0) X ∧ ((OF w.heap.size w' (.slice q ys.length c) ys ∧ ApV (.slice q ys.length c) (.slice q0 X.length c0)) ∨ (ys = [] ∧ c = 0)) ∧ ys.map (cn .f32) = L
theorem bbl_no {w w' : World} {e : Ending} (he : e = .returned (.tuple #[.agg #[.float .f32 0, .float .f32 0, .float .f32 0, .float .f32 0, .float .f32 0, .float .f32 0, .float .f32 0, .slice none 0 0], .slice none 0 0, .bool false])) (hb : Below w.heap.size w w') {s : St} {p : Nat} {X L : List Nat} {b : Bool} (h : b = false) : BBL w (bS b s) (bP b p) (bX b X) (bX b L) b e w' := by
  subst h
  exact ⟨none, 0, none, 0, [], he, hb, OF.nil0 _ _, .inr ⟨rfl, rfl⟩, rfl⟩
/-- The store of a tick's bar behind an append. -/
theorem brAt_put {B W b : Nat} {w3 u : World} {g0 : Option Nat} {s : St} {p : Nat} {X : List Nat} {q0 : Option Addr} {c0 : Nat} {q2 : Option Addr} {c2 : Nat} {ys2 : List Nat} {s' : St} {p' : Nat} {u' : Value} (h1 : w3.grownBy u g0) (ho : owned w3 b (barC s' p' u')) (hb : B ≤ b) (hgb : ∀ k, g0 = some k → k ≠ b) (hX : OF W w3 (.slice q0 X.length c0) X) (hW : b < W) (hBW : B ≤ W) (hg : ∀ k, g0 = some k → k < W) (hA : appP B w3.heap.size g0 ys2 (.slice q2 ys2.length c2) u) :
    BrAt B (u.setCells b 0 (barC s p (.slice q0 X.length c0))) b s p X q0 c0 q2 c2 ys2 := by
  have hlt : b < w3.heap.size := World.block_lt_of_cell? _ _ (ho 0 _ rfl).1
  have k1 : owned u b (barC s' p' u') := owned_kept ho h1 hlt hgb
  have k2 : OF W u (.slice q0 X.length c0) X := hX.blk fun k hk => h1.block k (hX.block k hk).2 (fun e => by have := hg k e.symm; have := (hX.block k hk).1; omega)
  have hne : ∀ k, (Value.slice q2 ys2.length c2).ownBlock = some k → k ≠ b := by
    intro k hk
    rcases hA.2 with h | h
    · exact hgb k (h.symm.trans hk)
    · have := h k hk; omega
  have hgs := grown_setCells b (barC s p (.slice q0 X.length c0)) 0 u
  refine ⟨⟨barC_stored k1, hb⟩, (k2.kept hgs ?_).base hBW, .inl ⟨hA.1.kept hgs ?_, hne, ?_⟩⟩
  · cases hu : (Value.slice q0 X.length c0).ownBlock with
    | none => exact .inl rfl
    | some k => exact .inr fun e => by have := (hX.block k hu).1; cases e; omega
  · cases hu : (Value.slice q2 ys2.length c2).ownBlock with
    | none => exact .inl rfl
    | some k => exact .inr fun e => hne k hu (by simpa using e)
  · intro k hk e
    have e1 := hX.block k e
    rcases hA.2 with h | h
    · have := hg k (h.symm.trans hk); omega
    · have := h k hk; omega
theorem BrAt.later {B : Nat} {wr w' : World} {b : Nat} {s : St} {p : Nat} {X : List Nat} {q0 : Option Addr} {c0 : Nat} {q : Option Addr} {c : Nat} {ys : List Nat} (h : BrAt B wr b s p X q0 c0 q c ys) (hb : Below wr.heap.size wr w') : BrAt B w' b s p X q0 c0 q c ys := ⟨⟨h.1.1.later hb, h.1.2⟩, h.2.1.later hb, h.2.2.later hb⟩
def brMk (B b : Nat) (s : St) (p : Nat) (X : List Nat) (q0 : Option Addr) (c0 : Nat) (ys2 : List Nat) (x : List Value) (u : World) : Prop := ∀ q c, Value.slice q ys2.length c ∈ x → BrAt B u b s p X q0 c0 q c ys2
theorem brMk_keeps (B b : Nat) (s : St) (p : Nat) (X : List Nat) (q0 : Option Addr) (c0 : Nat) (ys2 : List Nat) : Keeps (brMk B b s p X q0 c0 ys2) := fun x w w' h hb q c hm => (h q c hm).later hb
theorem bbe_no {w w' : World} {e : Ending} {s : St} {p : Nat} {X : List Nat} {b : Bool} (h : BBE w s p X b e w') (hb : b = false) : ∃ u, e = .returned (.tuple #[.agg #[.float .f32 0, .float .f32 0, .float .f32 0, .float .f32 0, .float .f32 0, .float .f32 0, .float .f32 0, u], .bool false]) ∧ Below w.heap.size w w' ∧ OF w.heap.size w' u [] := by
  obtain ⟨b', u, xs, ⟨rfl, rfl⟩, rfl, h1, h2⟩ := h
  subst hb
  exact ⟨u, rfl, h1, h2⟩
theorem bbe_yes {w w' : World} {e : Ending} {s : St} {p : Nat} {X : List Nat} {b : Bool} (h : BBE w s p X b e w') (hb : b = true) : ∃ u, e = .returned (.tuple #[.agg #[.float .f32 s.a, .float .f32 s.b, .float .f32 s.c, .float .f32 s.d, .float .f32 s.p, .float .f32 s.l, .float .f32 p, u], .bool true]) ∧ Below w.heap.size w w' ∧ OF w.heap.size w' u X := by
  obtain ⟨b', u, xs, ⟨rfl, rfl⟩, rfl, h1, h2⟩ := h
  subst hb
  exact ⟨u, rfl, h1, h2⟩
/-- The bar that the run begins with. -/
def bcM (B : Nat) (s : St) (p : Nat) (X : List Nat) (x : List Value) (u : World) : Prop := ∀ b q0 c0, x.head? = some (Value.pointer (some ⟨b, 0, none⟩)) → Value.agg #[.float .f32 s.a, .float .f32 s.b, .float .f32 s.c, .float .f32 s.d, .float .f32 s.p, .float .f32 s.l, .float .f32 p, .slice q0 X.length c0] ∈ x → (owned u b (barC s p (.slice q0 X.length c0)) ∧ B ≤ b) ∧ OF B u (.slice q0 X.length c0) X
theorem bcM_keeps (B : Nat) (s : St) (p : Nat) (X : List Nat) : Keeps (bcM B s p X) := fun x w w' h hb b q0 c0 h1 h2 => ⟨⟨(h b q0 c0 h1 h2).1.1.later hb, (h b q0 c0 h1 h2).1.2⟩, (h b q0 c0 h1 h2).2.later hb⟩
theorem bar_put {B : Nat} {s : St} {p : Nat} {X : List Nat} {q0 : Option Addr} {c0 : Nat} {u : World} {b : Nat} (h1 : OF B u (.slice q0 X.length c0) X) (h2 : vtK B [.float .f32 0, .float .f32 0, .float .f32 0, .float .f32 0, .float .f32 0, .float .f32 0, .float .f32 0, .slice none 0 0] 32 (.pointer (some ⟨b, 0, none⟩)) u) : (owned (u.setCells b 0 (barC s p (.slice q0 X.length c0))) b (barC s p (.slice q0 X.length c0)) ∧ B ≤ b) ∧ OF B (u.setCells b 0 (barC s p (.slice q0 X.length c0))) (.slice q0 X.length c0) X := by
  obtain ⟨⟨g1, g2⟩, g3⟩ := h2 b rfl
  exact ⟨⟨barC_stored (s0 := St0) (p0 := 0) (u0 := .slice none 0 0) g2, g1⟩, h1.kept (grown_setCells b _ 0 u) (h1.type g3 (by decide))⟩
end Go.Proofs.Ytjeeflldbhajiaa
set_option linter.unusedSimpArgs false
set_option linter.unusedVariables false
set_option linter.unusedSectionVars false
namespace Go.Proofs.Ytjeeflldbhajiaa
open Go Go.RowKit
/-- Sums over the first places. -/
def sumH (f : Nat → Rat) : Nat → Rat
  | 0 => 0
  | n + 1 => sumH f n + f n
theorem sumH_tele (z : Nat → Rat) : ∀ n, sumH (fun j => z j - z (j + 1)) n = z 0 - z n
  | 0 => by simp only [sumH]; grind
  | n + 1 => by simp only [sumH]; rw [sumH_tele z n]; grind
theorem sumH_near {f g : Nat → Rat} {e : Rat} : ∀ n, (∀ j, j < n → f j - g j ≤ e ∧ g j - f j ≤ e) → sumH f n - sumH g n ≤ (n : Rat) * e ∧ sumH g n - sumH f n ≤ (n : Rat) * e
  | 0, _ => by
    have : ((0 : Nat) : Rat) = 0 := rfl
    simp only [sumH]; rw [this]; constructor <;> grind
  | n + 1, h => by
    obtain ⟨a, b⟩ := sumH_near n (fun j hj => h j (by omega))
    obtain ⟨c, d⟩ := h n (by omega)
    have cc : ((n + 1 : Nat) : Rat) = (n : Rat) + 1 := Rat.natCast_add _ _
    simp only [sumH]
    rw [cc]
    constructor <;> grind
theorem sumH_add (f g : Nat → Rat) : ∀ n, sumH (fun j => f j + g j) n = sumH f n + sumH g n
  | 0 => by simp only [sumH]; grind
  | n + 1 => by simp only [sumH]; rw [sumH_add f g n]; grind
/-- The heat of a place; all heats are bounded. -/
def hX (xs : List Nat) (j : Nat) : Nat := cn .f32 (xs.getD j 0)
def HB (xs : List Nat) (H : Rat) : Prop := ∀ j, j < xs.length → Bnd .f32 (hX xs j) H
def sumX (xs : List Nat) : Rat := sumH (fun j => fv .f32 (hX xs j)) xs.length
section
variable {s : St} {a b c d p l : Int} {q : Nat} {e : Int} {t : Nat} {xs : List Nat}
/-- What flows between two places is no more than either bears. -/
theorem flow_four (h : TK s a b c d p l q e (cn .f32 t)) {x y : Nat} {H : Rat} (hH : 0 ≤ H ∧ H ≤ 17 / 2) (hx : Bnd .f32 x H) (hy : Bnd .f32 y H) {i g τ : Rat} (hi : i * ((e : Rat) / 4) = 1 ∧ 0 < i ∧ i ≤ 4 ∧ (1 : Rat) / 2 ≤ i) (hg : g = fv .f32 (cn .f32 t) * i ∧ 0 < g ∧ g ≤ 9) (hτ : τ = g * i ∧ 0 < τ ∧ τ ≤ 5) (hk : τ * ((moreI c d : Rat) / 4) ≤ 1001 / 4000 * ((lessI a b : Rat) / 2)) :
    Bnd .f32 (flowB s q x y) 512 ∧ (g * fv .f32 (flowB s q x y) ≤ 251 / 1000 * (H - fv .f32 y) + 60 * tp (-17) ∧ -(g * fv .f32 (flowB s q x y)) ≤ 251 / 1000 * (H + fv .f32 y) + 60 * tp (-17)) ∧ (-(g * fv .f32 (flowB s q x y)) ≤ 251 / 1000 * (H - fv .f32 x) + 60 * tp (-17) ∧ g * fv .f32 (flowB s q x y) ≤ 251 / 1000 * (H + fv .f32 x) + 60 * tp (-17)) := by
  have hb := h.sv.bd
  have l1 := lessI_le a b
  obtain ⟨_, _, _, _, _, ⟨lb1, lb2⟩⟩ := h.sv.rat
  obtain ⟨f0, ⟨f1, f2⟩, κ, ⟨κ0, _, κ2⟩, n1, n2⟩ := flow_near h (hx.mono (by grind)) (hy.mono (by grind)) hi hg hτ hk
  have N1 : ((1 : Int) : Rat) ≤ (lessI a b : Rat) := icast_le (by omega)
  have na : (lessI a b : Rat) ≤ (a : Rat) := icast_le l1.1
  have nb : (lessI a b : Rat) ≤ (b : Rat) := icast_le l1.2.1
  have L := fun (u v : Rat) (huv : u ≤ v) => wX_lip (a := a) (b := b) (p := p) (l := l) (m := (lessI a b : Rat) / 2) (by grind) (by grind) (by grind) (by grind) (h := u) (H := v) huv
  have a1 := L (fv .f32 y) H (by have := hy.2; grind)
  have a2 := L (fv .f32 x) H (by have := hx.2; grind)
  have a3 := L (-H) (fv .f32 y) (by have := hy.2; grind)
  have a4 := L (-H) (fv .f32 x) (by have := hx.2; grind)
  generalize wX a b p l (fv .f32 x) = wx at *
  generalize wX a b p l (fv .f32 y) = wy at *
  generalize wX a b p l H = wh at *
  generalize wX a b p l (-H) = wl at *
  generalize (lessI a b : Rat) / 2 = m at *
  -- 1000 κ z <= 251 m z
  have key : ∀ z : Rat, 0 ≤ z → 1000 * (κ * z) ≤ 251 * (m * z) := fun z hz => by
    have := Rat.mul_le_mul_of_nonneg_right κ2 hz; grind
  have k1 := key (wh - wy) (by grind)
  have k2 := key (wh - wx) (by grind)
  have k3 := key (wy - wl) (by grind)
  have k4 := key (wx - wl) (by grind)
  have c1 := Rat.mul_nonneg κ0 (show 0 ≤ wh - wx by grind)
  have c2 := Rat.mul_nonneg κ0 (show 0 ≤ wh - wy by grind)
  have c3 := Rat.mul_nonneg κ0 (show 0 ≤ wx - wl by grind)
  have c4 := Rat.mul_nonneg κ0 (show 0 ≤ wy - wl by grind)
  refine ⟨⟨f0, f1, f2⟩, ⟨by grind, by grind⟩, by grind, by grind⟩
theorem stbX_len (b1 b2 : Bool) (lw rw' : Nat) : (stbX s q xs lw rw' b1 b2 t).length = xs.length := stbL_len _ _ _ _ _
theorem stbX_at {b1 b2 : Bool} {lw rw' j : Nat} (hj : j < xs.length) : hX (stbX s q xs lw rw' b1 b2 t) j = stbB q xs (flA s q xs lw rw' b1 b2) t j := by
  unfold hX stbX stbL
  rw [List.getD_eq_getElem?_getD, List.getElem?_map, List.getElem?_range hj]
  exact cn_fop _ _ _ _
/-- A tick of a shut bar. -/
theorem tick_shut (h : TK s a b c d p l q e (cn .f32 t)) {H : Rat} (hH : 8 ≤ H ∧ H ≤ 17 / 2) (hb : HB xs H) (hn : 1 ≤ xs.length) :
    HB (stbX s q xs 0 0 false false t) (H + 128 * tp (-17)) ∧ sumX (stbX s q xs 0 0 false false t) - sumX xs ≤ (xs.length : Rat) * (6 * tp (-19)) ∧ sumX xs - sumX (stbX s q xs 0 0 false false t) ≤ (xs.length : Rat) * (6 * tp (-19)) := by
  obtain ⟨i, g, τ, hi, hg, hτ, hk⟩ := h.nums
  have ht := tp_n17
  have ht0 := tp_pos (-17)
  have t19 := tp_n19
  have fl0 : ∀ j, j = 0 ∨ j = xs.length → flA s q xs 0 0 false false j = cn .f32 0 := by
    intro j hj
    unfold flA inV outV
    rcases hj with rfl | rfl
    · rw [if_pos rfl]; rfl
    · rw [if_neg (by omega), if_pos rfl]; rfl
  have flm : ∀ j, 0 < j → j < xs.length → flA s q xs 0 0 false false j = flowB s q (hX xs (j - 1)) (hX xs j) := by
    intro j h0 h1
    unfold flA
    rw [if_neg (by omega), if_neg (by omega)]
    rfl
  -- each flow, seen from both sides
  have hz : fv .f32 (cn .f32 0) = 0 := V0.2
  have fin1 : ∀ j, j ≤ xs.length → Bnd .f32 (flA s q xs 0 0 false false j) 512 ∧ (-5 ≤ g * fv .f32 (flA s q xs 0 0 false false j) ∧ g * fv .f32 (flA s q xs 0 0 false false j) ≤ 5) := by
    intro j hj
    by_cases h0 : j = 0 ∨ j = xs.length
    · rw [fl0 j h0]
      exact ⟨⟨V0.1, by rw [hz]; decide, by rw [hz]; decide⟩, by rw [hz]; grind, by rw [hz]; grind⟩
    · rw [flm j (by omega) (by omega)]
      have by' := hb j (by omega)
      obtain ⟨f, ⟨u1, u2⟩, _⟩ := flow_four h ⟨by grind, hH.2⟩ (hb (j - 1) (by omega)) by' hi hg hτ hk
      have := by'.2
      exact ⟨f, by grind, by grind⟩
  have into : ∀ j, j < xs.length → g * fv .f32 (flA s q xs 0 0 false false j) ≤ 251 / 1000 * (H - fv .f32 (hX xs j)) + 60 * tp (-17) ∧ -(g * fv .f32 (flA s q xs 0 0 false false j)) ≤ 251 / 1000 * (H + fv .f32 (hX xs j)) + 60 * tp (-17) := by
    intro j hj
    have bj := (hb j hj).2
    by_cases h0 : j = 0
    · rw [fl0 j (.inl h0), hz]; constructor <;> grind
    · rw [flm j (by omega) hj]
      exact (flow_four h ⟨by grind, hH.2⟩ (hb (j - 1) (by omega)) (hb j hj) hi hg hτ hk).2.1
  have out : ∀ j, j < xs.length → -(g * fv .f32 (flA s q xs 0 0 false false (j + 1))) ≤ 251 / 1000 * (H - fv .f32 (hX xs j)) + 60 * tp (-17) ∧ g * fv .f32 (flA s q xs 0 0 false false (j + 1)) ≤ 251 / 1000 * (H + fv .f32 (hX xs j)) + 60 * tp (-17) := by
    intro j hj
    have bj := (hb j hj).2
    by_cases h0 : j + 1 = xs.length
    · rw [fl0 (j + 1) (.inr h0), hz]; constructor <;> grind
    · rw [flm (j + 1) (by omega) (by omega)]
      have := (flow_four h ⟨by grind, hH.2⟩ (hb j hj) (hb (j + 1) (by omega)) hi hg hτ hk).2.2
      exact this
  have cell : ∀ j, j < xs.length → Nr (stbB q xs (flA s q xs 0 0 false false) t j) (fv .f32 (hX xs j) + (g * fv .f32 (flA s q xs 0 0 false false j) - g * fv .f32 (flA s q xs 0 0 false false (j + 1)))) (6 * tp (-19)) := by
    intro j hj
    have f1 := fin1 j (by omega)
    have f2 := fin1 (j + 1) (by omega)
    exact cell_step h ((hb j hj).mono (by grind)) hi hg f1.1 f2.1 f1.2 f2.2
  have l0 := stbX_len (s := s) (q := q) (xs := xs) (t := t) false false 0 0
  refine ⟨fun j hj => ?_, ?_⟩
  · rw [l0] at hj
    rw [stbX_at hj]
    obtain ⟨n0, n1, n2⟩ := cell j hj
    have i1 := into j hj
    have o1 := out j hj
    have bj := (hb j hj).2
    exact ⟨n0, by grind, by grind⟩
  · have e1 : sumX (stbX s q xs 0 0 false false t) = sumH (fun j => fv .f32 (stbB q xs (flA s q xs 0 0 false false) t j)) xs.length := by
      unfold sumX
      rw [l0]
      have : ∀ n, n ≤ xs.length → sumH (fun j => fv .f32 (hX (stbX s q xs 0 0 false false t) j)) n = sumH (fun j => fv .f32 (stbB q xs (flA s q xs 0 0 false false) t j)) n := by
        intro n
        induction n with
        | zero => intro _; rfl
        | succ n ih => intro hn; simp only [sumH]; rw [ih (by omega), stbX_at (by omega)]
      exact this _ (Nat.le_refl _)
    have e2 := sumH_near (f := fun j => fv .f32 (stbB q xs (flA s q xs 0 0 false false) t j)) (g := fun j => fv .f32 (hX xs j) + (g * fv .f32 (flA s q xs 0 0 false false j) - g * fv .f32 (flA s q xs 0 0 false false (j + 1)))) (e := 6 * tp (-19)) xs.length (fun j hj => (cell j hj).2)
    rw [sumH_add, sumH_tele (fun j => g * fv .f32 (flA s q xs 0 0 false false j))] at e2
    have z0 : g * fv .f32 (flA s q xs 0 0 false false 0) = 0 := by rw [fl0 0 (.inl rfl), hz]; grind
    have zn : g * fv .f32 (flA s q xs 0 0 false false xs.length) = 0 := by rw [fl0 _ (.inr rfl), hz]; grind
    rw [z0, zn] at e2
    rw [e1]
    have e3 : sumX xs = sumH (fun j => fv .f32 (hX xs j)) xs.length := rfl
    rw [e3]
    exact ⟨by have := e2.1; grind, by have := e2.2; grind⟩
end
end Go.Proofs.Ytjeeflldbhajiaa
set_option linter.unusedSimpArgs false
set_option linter.unusedVariables false
set_option linter.unusedSectionVars false
namespace Go.Proofs.Ytjeeflldbhajiaa
open Go Go.RowKit
theorem any_noneB {xs : List Nat} {f : Nat → Bool} (h : ∀ j, j < xs.length → f (xs.getD j 0) = false) : xs.any f = false := by
  rw [List.any_eq_false]
  intro x hx
  obtain ⟨j, hj, rfl⟩ := List.mem_iff_getElem.1 hx
  have := h j hj
  rw [List.getD_eq_getElem?_getD, List.getElem?_eq_getElem hj] at this
  simpa using this
theorem Bnd.fin {x : Nat} {B : Rat} (h : Bnd .f32 x B) : fin .f32 x = true := by rw [fin_num]; exact h.1
section
variable {s : St} {a b c d p l : Int} {q : Nat} {e : Int} {t : Nat} {xs : List Nat}
theorem step_abv (he : 1 ≤ e ∧ e ≤ 8) (hq : V .f32 (cn .f32 q) ((e : Rat) / 4)) : abv (cn .f32 q) = true := by
  have E1 : ((1 : Int) : Rat) ≤ (e : Rat) := icast_le he.1
  exact abv_of hq.1 (by rw [hq.2]; grind)
/-- A bar of bounded heats is valid. -/
theorem bar_ok (h : SV s a b c d p l) (he : 1 ≤ e ∧ e ≤ 8) (hq : V .f32 (cn .f32 q) ((e : Rat) / 4)) (hb : HB xs 9) (hn : 1 ≤ xs.length ∧ xs.length ≤ 48) : barOk s q xs = true := by
  unfold barOk
  rw [h.ok, step_abv he hq, decide_eq_true hn.1, decide_eq_true hn.2, any_noneB fun j hj => ?_]
  · rfl
  · have w := (warm_near h (hb j hj)).2
    unfold badC
    have e1 : fin .f32 (cn .f32 (xs.getD j 0)) = true := (hb j hj).fin
    have e2 : fin .f32 (warmC s.k (cn .f32 (xs.getD j 0))) = true := w.fin
    rw [e1, e2]; rfl
/-- Ticks of a shut bar, one after another. -/
theorem run_shut (h : TK s a b c d p l q e (cn .f32 t)) (hb : HB xs 8) (hn : 1 ≤ xs.length) : ∀ k : Nat, k ≤ 12 → (brX s q 0 0 false false t xs k).length = xs.length ∧ HB (brX s q 0 0 false false t xs k) (8 + (k : Rat) * (128 * tp (-17))) ∧ sumX (brX s q 0 0 false false t xs k) - sumX xs ≤ (k : Rat) * ((xs.length : Rat) * (6 * tp (-19))) ∧ sumX xs - sumX (brX s q 0 0 false false t xs k) ≤ (k : Rat) * ((xs.length : Rat) * (6 * tp (-19)))
  | 0, _ => by
    have z : ((0 : Nat) : Rat) = 0 := rfl
    refine ⟨rfl, fun j hj => (hb j hj).mono (by rw [z]; grind), ?_, ?_⟩
    · show sumX xs - sumX xs ≤ _; rw [z]; grind
    · show sumX xs - sumX xs ≤ _; rw [z]; grind
  | k + 1, hk => by
    obtain ⟨a1, a2, a3, a4⟩ := run_shut h hb hn k (by omega)
    have ht := tp_n17
    have ht0 := tp_pos (-17)
    have kb : (k : Rat) ≤ ((12 : Nat) : Rat) := by exact_mod_cast (show k ≤ 12 by omega)
    have k0 : (0 : Rat) ≤ (k : Rat) := by exact_mod_cast Nat.zero_le k
    have e12 : ((12 : Nat) : Rat) = 12 := rfl
    rw [e12] at kb
    have hm := Rat.mul_le_mul_of_nonneg_right kb (show 0 ≤ 128 * tp (-17) by grind)
    have hm0 := Rat.mul_nonneg k0 (show 0 ≤ 128 * tp (-17) by grind)
    obtain ⟨b1, b2, b3⟩ := tick_shut h (H := 8 + (k : Rat) * (128 * tp (-17))) ⟨by grind, by grind⟩ a2 (by rw [a1]; exact hn)
    have cc : ((k + 1 : Nat) : Rat) = (k : Rat) + 1 := Rat.natCast_add _ _
    rw [a1] at b2 b3
    refine ⟨(stbX_len false false 0 0).trans a1, ?_, ?_, ?_⟩
    · have e1 : 8 + ((k + 1 : Nat) : Rat) * (128 * tp (-17)) = 8 + (k : Rat) * (128 * tp (-17)) + 128 * tp (-17) := by rw [cc]; grind
      rw [e1]; exact b1
    · rw [cc]; show sumX (stbX s q (brX s q 0 0 false false t xs k) 0 0 false false t) - _ ≤ _; grind
    · rw [cc]; show _ - sumX (stbX s q (brX s q 0 0 false false t xs k) 0 0 false false t) ≤ _; grind
theorem run_nine (h : TK s a b c d p l q e (cn .f32 t)) (hb : HB xs 8) (hn : 1 ≤ xs.length) {k : Nat} (hk : k ≤ 12) : HB (brX s q 0 0 false false t xs k) 9 := by
  obtain ⟨_, a2, _⟩ := run_shut h hb hn k hk
  have ht := tp_n17
  have ht0 := tp_pos (-17)
  have kb : (k : Rat) ≤ ((12 : Nat) : Rat) := by exact_mod_cast hk
  have e12 : ((12 : Nat) : Rat) = 12 := rfl
  rw [e12] at kb
  have hm := Rat.mul_le_mul_of_nonneg_right kb (show 0 ≤ 128 * tp (-17) by grind)
  exact fun j hj => (a2 j hj).mono (by grind)
/-- How much is molten. -/
theorem acc_part (h : SV s a b c d p l) (hb : HB xs 9) (hn : xs.length ≤ 48) : ∀ k, k ≤ xs.length → Btw .f32 (accC (partC s.k) (xs.take k)) 0 ((k : Nat) : Rat)
  | 0, _ => by
    have z : ((0 : Nat) : Rat) = 0 := rfl
    rw [z]
    exact ⟨V0.1, by show (0 : Rat) ≤ fv .f32 (cn .f32 0); rw [V0.2]; decide, by show fv .f32 (cn .f32 0) ≤ (0 : Rat); rw [V0.2]; decide⟩
  | k + 1, hk => by
    rw [accC_step _ _ (show k < xs.length by omega)]
    obtain ⟨a0, a1, a2⟩ := acc_part h hb hn k (by omega)
    obtain ⟨p0, p1, p2⟩ := part_in h (hb k (by omega)).1
    have cc : ((k + 1 : Nat) : Rat) = (k : Rat) + 1 := Rat.natCast_add _ _
    have p1' : 0 ≤ fv .f32 (partC s.k (cn .f32 (xs.getD k 0))) := p1
    have p2' : fv .f32 (partC s.k (cn .f32 (xs.getD k 0))) ≤ 1 := p2
    refine fop_btw .add rfl .f32 a0 p0 (by simp) (Rep.int (k := .f32) 0 (by decide)) (Rep.nat _ (by show _ < 2 ^ (23 + 1); omega)) ?_ ?_
    · simp only [ex]; show (0 : Rat) ≤ _; grind
    · simp only [ex]; rw [cc]; grind
theorem melt_in (h : SV s a b c d p l) (he : 1 ≤ e ∧ e ≤ 8) (hq : V .f32 (cn .f32 q) ((e : Rat) / 4)) (hb : HB xs 9) (hn : xs.length ≤ 48) : Btw .f32 (meltB s q xs) 0 (((xs.length : Int) * e : Int) / 4 : Rat) := by
  have A := acc_part h hb hn xs.length (Nat.le_refl _)
  rw [List.take_length] at A
  obtain ⟨a0, a1, a2⟩ := A
  have E1 : ((1 : Int) : Rat) ≤ (e : Rat) := icast_le he.1
  have ne : (xs.length : Int) * e ≤ 48 * 8 := Int.mul_le_mul (by omega) he.2 (by omega) (by omega)
  have ne0 : 0 ≤ (xs.length : Int) * e := Int.mul_nonneg (by omega) (by omega)
  have ec : (((xs.length : Int) * e : Int) : Rat) = (xs.length : Rat) * (e : Rat) := by rw [Rat.intCast_mul]; rfl
  unfold meltB
  refine fop_btw .mul rfl .f32 a0 hq.1 (by simp) (Rep.int (k := .f32) 0 (by decide)) (rep_quarter (by omega)) ?_ ?_
  · simp only [ex]; rw [hq.2]
    have := Rat.mul_nonneg a1 (show 0 ≤ (e : Rat) / 4 by grind)
    exact this
  · simp only [ex]; rw [hq.2, ec]
    have := Rat.mul_le_mul_of_nonneg_right a2 (show 0 ≤ (e : Rat) / 4 by grind)
    grind
/-- The heat in a bar. -/
theorem acc_heat (hb : HB xs 9) (hn : xs.length ≤ 7) : ∀ k, k ≤ xs.length → Nr (accC id (xs.take k)) (sumH (fun j => fv .f32 (hX xs j)) k) ((k : Rat) * tp (-17)) ∧ (-(9 * (k : Rat)) ≤ sumH (fun j => fv .f32 (hX xs j)) k ∧ sumH (fun j => fv .f32 (hX xs j)) k ≤ 9 * (k : Rat))
  | 0, _ => by
    have z : ((0 : Nat) : Rat) = 0 := rfl
    rw [z]
    have e0 : accC id (xs.take 0) = cn .f32 0 := rfl
    have e1 : sumH (fun j => fv .f32 (hX xs j)) 0 = 0 := rfl
    rw [e0, e1]
    exact ⟨⟨V0.1, by rw [V0.2]; grind, by rw [V0.2]; grind⟩, by grind, by grind⟩
  | k + 1, hk => by
    obtain ⟨⟨a0, a1, a2⟩, b1, b2⟩ := acc_heat hb hn k (by omega)
    rw [accC_step _ _ (show k < xs.length by omega)]
    obtain ⟨h0, h1, h2⟩ := hb k (by omega)
    have cc : ((k + 1 : Nat) : Rat) = (k : Rat) + 1 := Rat.natCast_add _ _
    have kb : (k : Rat) ≤ ((6 : Nat) : Rat) := by exact_mod_cast (show k ≤ 6 by omega)
    have k0 : (0 : Rat) ≤ (k : Rat) := by exact_mod_cast Nat.zero_le k
    have e6 : ((6 : Nat) : Rat) = 6 := rfl
    rw [e6] at kb
    have ht := tp_n17
    have ht0 := tp_pos (-17)
    have hm := Rat.mul_le_mul_of_nonneg_right kb (Rat.le_of_lt ht0)
    have es : sumH (fun j => fv .f32 (hX xs j)) (k + 1) = sumH (fun j => fv .f32 (hX xs j)) k + fv .f32 (hX xs k) := rfl
    have N := fop_nr .add rfl a0 h0 (by simp) (by simp only [ex]; grind) (by simp only [ex]; grind)
    simp only [ex] at N
    obtain ⟨n0, n1, n2⟩ := N
    rw [es, cc]
    have eid : id (cn .f32 (xs.getD k 0)) = hX xs k := rfl
    rw [eid]
    exact ⟨⟨n0, by grind, by grind⟩, by grind, by grind⟩
theorem heat_near (he : 1 ≤ e ∧ e ≤ 8) (hq : V .f32 (cn .f32 q) ((e : Rat) / 4)) (hb : HB xs 9) (hn : xs.length ≤ 7) : Nr (heatB q xs) (sumX xs * ((e : Rat) / 4)) (15 * tp (-17)) ∧ Bnd .f32 (heatB q xs) 128 := by
  have A := acc_heat hb hn xs.length (Nat.le_refl _)
  rw [List.take_length] at A
  obtain ⟨⟨a0, a1, a2⟩, b1, b2⟩ := A
  have E1 : ((1 : Int) : Rat) ≤ (e : Rat) := icast_le he.1
  have E2 : (e : Rat) ≤ ((8 : Int) : Rat) := icast_le he.2
  have kb : ((xs.length : Nat) : Rat) ≤ ((7 : Nat) : Rat) := by exact_mod_cast hn
  have e7 : ((7 : Nat) : Rat) = 7 := rfl
  rw [e7] at kb
  have ht := tp_n17
  have ht0 := tp_pos (-17)
  have hm := Rat.mul_le_mul_of_nonneg_right kb (Rat.le_of_lt ht0)
  have es : sumX xs = sumH (fun j => fv .f32 (hX xs j)) xs.length := rfl
  rw [← es] at a1 a2 b1 b2
  have d := mul_bd (a := 7 * tp (-17)) (b := 2) (x := fv .f32 (accC id xs) - sumX xs) (y := (e : Rat) / 4) (by grind) (by grind) (by grind) (by grind)
  have f := mul_bd (a := 63 + 7 * tp (-17)) (b := 2) (x := fv .f32 (accC id xs)) (y := (e : Rat) / 4) (by grind) (by grind) (by grind) (by grind)
  have N := fop_nr .mul rfl a0 hq.1 (by simp) (by simp only [ex]; rw [hq.2]; grind) (by simp only [ex]; rw [hq.2]; grind)
  simp only [ex] at N
  rw [hq.2] at N
  obtain ⟨n0, n1, n2⟩ := N
  unfold heatB
  exact ⟨⟨n0, by grind, by grind⟩, n0, by grind, by grind⟩
end
end Go.Proofs.Ytjeeflldbhajiaa
set_option linter.unusedSimpArgs false
set_option linter.unusedVariables false
set_option linter.unusedSectionVars false
namespace Go.Proofs.Ytjeeflldbhajiaa
open Go Go.RowKit
section
variable {P X Y : Nat} {p m n : Int}
end
end Go.Proofs.Ytjeeflldbhajiaa
set_option linter.unusedSimpArgs false
set_option linter.unusedVariables false
set_option linter.unusedSectionVars false
namespace Go.Proofs.Ytjeeflldbhajiaa
open Go Go.RowKit
section
variable {s : St} {a b c d p l k : Int} {H : Nat}
/-- What a heat of k quarters leads to. -/
structure HV (s : St) (p k : Int) (W T : Nat) : Prop where
  fW : fnt .f32 W = true
  fT : fnt .f32 T = true
  t0 : 0 ≤ fv .f32 T
  t1 : fv .f32 T ≤ 1
  sg : (fv .f32 W < fv .f32 s.k.p ↔ k < 0) ∧ (0 ≤ k → fv .f32 s.k.p ≤ fv .f32 W)
end
end Go.Proofs.Ytjeeflldbhajiaa
set_option linter.unusedSimpArgs false
set_option linter.unusedVariables false
set_option linter.unusedSectionVars false
namespace Go.Proofs.Ytjeeflldbhajiaa
open Go Go.RowKit
section
variable {s : St} {a b c d p l k : Int} {H : Nat}
end
end Go.Proofs.Ytjeeflldbhajiaa
set_option linter.unusedSimpArgs false
set_option linter.unusedVariables false
set_option linter.unusedSectionVars false
namespace Go.Proofs.Ytjeeflldbhajiaa
open Go Go.RowKit
def gapC (x y : Nat) : Nat := if flt .f64 x y then fop .sub .f64 y x else fop .sub .f64 x y
theorem cn_gapC (x y : Nat) : cn .f64 (gapC x y) = gapC x y := by unfold gapC; split <;> exact cn_fop _ _ _ _
/-- A hundredth, a thousandth, in 64 bits. -/
def cHun : Nat := cn .f64 4576918229304087675
def cTho : Nat := cn .f64 4562254508917369340
theorem rep64 (z q : Int) (h : z.natAbs < 9007199254740992) (h1 : -1000 ≤ q) (h2 : q ≤ 900) {r : Rat} (hr : r = z * tp q) : Rep .f64 r := rep_at (k := .f64) z q (by show z.natAbs < 2 ^ (52 + 1); exact h) (by show -1074 ≤ q; omega) (by show q + 52 + 1 < 1024; omega) hr
theorem tp_n7 : tp (-7) * 128 = 1 := by
  have h : tp (-7) * tp 7 = 1 := by rw [← tp_add]; exact tp_zero
  rwa [tp7] at h
theorem V64 : V .f64 (fop .quo .f64 (floatOfInt .f64 1) (floatOfInt .f64 128)) ((1 : Rat) / 128) := by
  have := V.op .quo rfl (V.int .f64 1 (by decide)) (V.int .f64 128 (by decide)) (fun _ => by decide) (by simp only [ex]; exact rep64 1 (-7) (by decide) (by decide) (by decide) (by have := tp_n7; grind))
  exact this.eq rfl
theorem cHun_lt : fnt .f64 cHun = true ∧ (1 : Rat) / 128 < fv .f64 cHun := by
  have h1 : fnt .f64 cHun = true := by decide +kernel
  refine ⟨h1, ?_⟩
  have h2 : flt .f64 (fop .quo .f64 (floatOfInt .f64 1) (floatOfInt .f64 128)) cHun = true := by decide +kernel
  rw [fltv V64.1 h1, V64.2] at h2
  exact of_decide_eq_true h2
theorem cTho_pos : fnt .f64 cTho = true ∧ 0 ≤ fv .f64 cTho ∧ fv .f64 cTho ≤ 1 := by
  have h1 : fnt .f64 cTho = true := by decide +kernel
  have z := V.int .f64 0 (by decide)
  have o := V.int .f64 1 (by decide)
  refine ⟨h1, ?_, ?_⟩
  · have h2 : fle .f64 (floatOfInt .f64 0) cTho = true := by decide +kernel
    rw [flev z.1 h1, z.2] at h2
    exact of_decide_eq_true h2
  · have h2 : fle .f64 cTho (floatOfInt .f64 1) = true := by decide +kernel
    rw [flev h1 o.1, o.2] at h2
    exact of_decide_eq_true h2
theorem rep128 : Rep .f64 ((1 : Rat) / 128) := rep64 1 (-7) (by decide) (by decide) (by decide) (by have := tp_n7; grind)
end Go.Proofs.Ytjeeflldbhajiaa
set_option linter.unusedSimpArgs false
set_option linter.unusedVariables false
set_option linter.unusedSectionVars false
namespace Go.Proofs.Ytjeeflldbhajiaa
open Go Go.RowKit
def cOne64 : Nat := cn .f64 4607182418800017408
theorem vOne64 : V .f64 cOne64 1 := by
  have e : cOne64 = floatOfInt .f64 1 := by decide +kernel
  rw [e]; exact (V.int .f64 1 (by decide)).eq rfl
theorem vZero64 : V .f64 (cn .f64 0) 0 := by
  have e : cn .f64 0 = floatOfInt .f64 0 := by decide +kernel
  rw [e]; exact (V.int .f64 0 (by decide)).eq rfl
/-- How far two numbers lie apart: never negative, no more than a bound. -/
theorem gapC_btw {x y : Nat} {r : Rat} (hx : fnt .f64 x = true) (hy : fnt .f64 y = true) (hr : Rep .f64 r) (h1 : fv .f64 x - fv .f64 y ≤ r) (h2 : fv .f64 y - fv .f64 x ≤ r) : Btw .f64 (gapC x y) 0 r := by
  have z : Rep .f64 (0 : Rat) := Rep.int (k := .f64) 0 (by decide)
  unfold gapC
  rw [fltv hx hy]
  by_cases c : fv .f64 x < fv .f64 y
  · rw [if_pos (decide_eq_true c)]
    exact fop_btw .sub rfl .f64 hy hx (by simp) z hr (by simp only [ex]; grind) (by simp only [ex]; exact h2)
  · rw [if_neg (by rw [decide_eq_false c]; simp)]
    exact fop_btw .sub rfl .f64 hx hy (by simp) z hr (by simp only [ex]; grind) (by simp only [ex]; exact h1)
theorem rep256' : Rep .f64 ((1 : Rat) / 256) := rep64 1 (-8) (by decide) (by decide) (by decide) (by
  have h8 : tp (-8) * 256 = 1 := by
    have h : tp (-8) * tp 8 = 1 := by rw [← tp_add]; exact tp_zero
    rwa [show tp 8 = 256 from (tp_nat 8).trans rfl] at h
  have : ((1 : Int) : Rat) = 1 := rfl
  rw [this]; grind)
/-- Heat before and after, compared as the law does. -/
theorem gap_kept {B A : Nat} (hB : Bnd .f32 B 128) (hA : fnt .f32 A = true) (h1 : fv .f32 B - fv .f32 A ≤ 1 / 256) (h2 : fv .f32 A - fv .f32 B ≤ 1 / 256) : fgt .f64 (gapC (wide B) (wide A)) (fop .mul .f64 cHun (fop .add .f64 cOne64 (gapC (wide B) (cn .f64 0)))) = false := by
  obtain ⟨b0, b1, b2⟩ := hB
  obtain ⟨w0, w1⟩ := wide_val b0
  obtain ⟨v0, v1⟩ := wide_val hA
  obtain ⟨c0, c1⟩ := cHun_lt
  have cm : fv .f64 cHun ≤ 1 := by
    have o := V.int .f64 1 (by decide)
    have h2 : fle .f64 cHun (floatOfInt .f64 1) = true := by decide +kernel
    rw [flev c0 o.1, o.2] at h2
    exact of_decide_eq_true h2
  have G := gapC_btw w0 v0 rep256' (by rw [w1, v1]; exact h1) (by rw [w1, v1]; exact h2)
  have r128 : Rep .f64 (128 : Rat) := Rep.int (k := .f64) 128 (by decide)
  have r129 : Rep .f64 (129 : Rat) := Rep.int (k := .f64) 129 (by decide)
  have r1 : Rep .f64 (1 : Rat) := Rep.int (k := .f64) 1 (by decide)
  obtain ⟨k0, k1, k2⟩ := gapC_btw w0 vZero64.1 r128 (by rw [w1, vZero64.2]; grind) (by rw [w1, vZero64.2]; grind)
  obtain ⟨s0, s1, s2⟩ := fop_btw .add rfl .f64 (a := 1) (b := 129) vOne64.1 k0 (by simp) r1 r129 (by simp only [ex]; rw [vOne64.2]; grind) (by simp only [ex]; rw [vOne64.2]; grind)
  have m1 := Rat.mul_nonneg (show 0 ≤ fv .f64 cHun - 1 / 128 by grind) (show 0 ≤ fv .f64 (fop .add .f64 cOne64 (gapC (wide B) (cn .f64 0))) - 1 by grind)
  have m2 := Rat.mul_le_mul_of_nonneg_right cm (show 0 ≤ fv .f64 (fop .add .f64 cOne64 (gapC (wide B) (cn .f64 0))) by grind)
  obtain ⟨p0, p1, p2⟩ := fop_btw .mul rfl .f64 (a := (1 : Rat) / 128) (b := 129) c0 s0 (by simp) rep128 r129 (by simp only [ex]; grind) (by simp only [ex]; grind)
  rw [fgtv G.1 p0]
  have := G.2.2
  exact decide_eq_false (by grind)
section
variable {s : St} {a b c d p l : Int} {q : Nat} {e : Int} {t : Nat} {xs : List Nat}
/-- A tick that is allowed. -/
theorem TK.can (h : TK s a b c d p l q e (cn .f32 t)) {ys : List Nat} (hb : HB ys 9) (hn : 1 ≤ ys.length ∧ ys.length ≤ 48) : canB s q ys 0 0 t = true := by
  obtain ⟨⟨m0, _, _⟩, _⟩ := most_val h.sv h.he h.hq
  have f0 : fin .f32 (cn .f32 0) = true := V0.fin
  have fm : fin .f32 (mostV s q) = true := by rw [fin_num]; exact m0
  have le : fle .f32 (cn .f32 t) (mostV s q) = true := by rw [flev h.hT m0]; exact decide_eq_true h.t1
  unfold canB
  rw [bar_ok h.sv h.he h.hq hb hn, fm, f0, abv_of h.hT h.t0, le]; rfl
/-- Runs go through. -/
theorem run_ok (h : TK s a b c d p l q e (cn .f32 t)) (hb : HB xs 8) (hn : 1 ≤ xs.length ∧ xs.length ≤ 48) : ∀ k, k ≤ 12 → brU s q 0 0 false false t xs k = true
  | 0, _ => rfl
  | k + 1, hk => by
    have ih := run_ok h hb hn k (by omega)
    have h9 := run_nine h hb hn.1 hk
    have hl := (run_shut h hb hn.1 (k + 1) hk).1
    have ok : brM s q 0 0 false false t xs k = true := bar_ok h.sv h.he h.hq h9 (by rw [hl]; exact hn)
    have mf : fin .f32 (brH s q 0 0 false false t xs (k + 1)) = true := by
      rw [fin_num]
      exact (melt_in h.sv h.he h.hq h9 (by rw [hl]; exact hn.2)).1
    simp only [brU]
    rw [ih, ok, mf]; rfl
end
end Go.Proofs.Ytjeeflldbhajiaa
set_option linter.unusedSimpArgs false
set_option linter.unusedVariables false
set_option linter.unusedSectionVars false
namespace Go.Proofs.Ytjeeflldbhajiaa
open Go Go.RowKit
section
variable {s : St} {a b c d p l : Int} {q : Nat} {e : Int} {t : Nat} {X F H : Nat}
/-- The heat of molten stuff three degrees above its point. -/
theorem even_heat (h : SV s a b c d p l) (hX : V .f32 X ((p + 3 : Int) : Rat)) : V .f32 (heatC s.k X F) (((3 * b + l : Int) : Rat) / 2) := by
  have hb := h.bd
  have e3 : ((p + 3 : Int) : Rat) = (p : Rat) + 3 := by rw [Rat.intCast_add]; rfl
  unfold heatC
  rw [fltv hX.1 h.P.1, hX.2, h.P.2, e3, if_neg (by rw [decide_eq_false (by grind)]; simp), fgtv hX.1 h.P.1, hX.2, h.P.2, e3, if_pos (decide_eq_true (by grind))]
  have s1 : ex .sub ((p + 3 : Int) : Rat) (p : Rat) = ((3 : Int) : Rat) := by simp only [ex]; rw [e3]; have : ((3 : Int) : Rat) = 3 := rfl; rw [this]; grind
  have A := V.op .sub rfl hX h.P (by simp) (by rw [s1]; exact rep_int (by decide))
  rw [s1] at A
  have s2 : ex .mul ((b : Rat) / 2) ((3 : Int) : Rat) = ((3 * b : Int) : Rat) / 2 := by simp only [ex]; rw [Rat.intCast_mul]; grind
  have B := V.op .mul rfl h.B A (by simp) (by rw [s2]; exact rep_half (by omega))
  rw [s2] at B
  have s3 : ex .add ((l : Rat) / 2) (((3 * b : Int) : Rat) / 2) = ((3 * b + l : Int) : Rat) / 2 := by simp only [ex]; rw [Rat.intCast_add]; grind
  have C := V.op .add rfl h.L B (by simp) (by rw [s3]; exact rep_half (by omega))
  rwa [s3] at C
/-- .. and how warm that is, and how easily heat flows. -/
theorem even_warm (h : SV s a b c d p l) (hH : V .f32 H (((3 * b + l : Int) : Rat) / 2)) : V .f32 (warmC s.k H) ((p + 3 : Int) : Rat) ∧ V .f32 (easeC s.k H) ((d : Rat) / 4) := by
  have hb := h.bd
  obtain ⟨_, ⟨b1, b2⟩, ⟨c1, c2⟩, ⟨d1, d2⟩, _, ⟨l1, l2⟩⟩ := h.rat
  have e0 : ((3 * b + l : Int) : Rat) = 3 * (b : Rat) + (l : Rat) := by rw [Rat.intCast_add, Rat.intCast_mul]; rfl
  have f1 : flt .f32 H (cn .f32 0) = false := by rw [fltv hH.1 V0.1, hH.2, V0.2, e0]; exact decide_eq_false (by grind)
  have f2 : fgt .f32 H s.k.l = true := by rw [fgtv hH.1 h.L.1, hH.2, h.L.2, e0]; exact decide_eq_true (by grind)
  constructor
  · unfold warmC
    rw [f1, f2]
    simp only [Bool.false_eq_true, if_false, if_true]
    have s1 : ex .sub (((3 * b + l : Int) : Rat) / 2) ((l : Rat) / 2) = ((3 * b : Int) : Rat) / 2 := by simp only [ex]; rw [e0, Rat.intCast_mul]; grind
    have A := V.op .sub rfl hH h.L (by simp) (by rw [s1]; exact rep_half (by omega))
    rw [s1] at A
    have s2 : ex .quo (((3 * b : Int) : Rat) / 2) ((b : Rat) / 2) = ((3 : Int) : Rat) := by simp only [ex]; rw [Rat.intCast_mul]; grind
    have B := V.op .quo rfl A h.B (fun _ => by grind) (by rw [s2]; exact rep_int (by decide))
    rw [s2] at B
    have s3 : ex .add (p : Rat) ((3 : Int) : Rat) = ((p + 3 : Int) : Rat) := by simp only [ex]; rw [Rat.intCast_add]
    have C := V.op .add rfl h.P B (by simp) (by rw [s3]; exact rep_int (by omega))
    rwa [s3] at C
  · unfold easeC partC
    rw [f1, f2]
    simp only [Bool.false_eq_true, if_false, if_true]
    have s1 : ex .sub ((d : Rat) / 4) ((c : Rat) / 4) = ((d - c : Int) : Rat) / 4 := by simp only [ex]; rw [Rat.intCast_sub]; grind
    have A := V.op .sub rfl h.D h.C (by simp) (by rw [s1]; exact rep_quarter (by omega))
    rw [s1] at A
    have s2 : ex .mul 1 (((d - c : Int) : Rat) / 4) = ((d - c : Int) : Rat) / 4 := by simp only [ex]; grind
    have B := V.op .mul rfl V1 A (by simp) (by rw [s2]; exact rep_quarter (by omega))
    rw [s2] at B
    have s3 : ex .add ((c : Rat) / 4) (((d - c : Int) : Rat) / 4) = (d : Rat) / 4 := by simp only [ex]; rw [Rat.intCast_sub]; grind
    have C := V.op .add rfl h.C B (by simp) (by rw [s3]; exact rep_quarter (by omega))
    rwa [s3] at C
/-- Nothing flows between equal heats. -/
theorem even_flow (h : SV s a b c d p l) (he : 1 ≤ e ∧ e ≤ 8) (hq : V .f32 (cn .f32 q) ((e : Rat) / 4)) (hH : V .f32 H (((3 * b + l : Int) : Rat) / 2)) : V .f32 (flowB s q H H) 0 := by
  have hb := h.bd
  obtain ⟨W, E⟩ := even_warm h hH
  obtain ⟨_, _, _, ⟨d1, d2⟩, _, _⟩ := h.rat
  have E1 : ((1 : Int) : Rat) ≤ (e : Rat) := icast_le he.1
  obtain ⟨m0, m1, m2⟩ := mean_btw (x := easeC s.k H) (y := easeC s.k H) (M := (d : Rat) / 4) (by constructor <;> grind) ⟨E.1, by rw [E.2]; grind, by rw [E.2]; exact Rat.le_refl⟩ ⟨E.1, by rw [E.2]; grind, by rw [E.2]; exact Rat.le_refl⟩
  have r0 : Rep .f32 (0 : Rat) := Rep.int (k := .f32) 0 (by decide)
  have s1 : ex .sub ((p + 3 : Int) : Rat) ((p + 3 : Int) : Rat) = 0 := by simp only [ex]; grind
  have S := V.op .sub rfl W W (by simp) (by rw [s1]; exact r0)
  rw [s1] at S
  unfold flowB
  generalize fop .quo .f32 (fop .mul .f32 (fop .mul .f32 (cn .f32 1073741824) (easeC s.k H)) (easeC s.k H)) (fop .add .f32 (easeC s.k H) (easeC s.k H)) = M at *
  have s2 : ex .mul (fv .f32 M) 0 = 0 := by simp only [ex]; grind
  have P := V.op .mul rfl (show V .f32 M (fv .f32 M) from ⟨m0, rfl⟩) S (by simp) (by rw [s2]; exact r0)
  rw [s2] at P
  have s3 : ex .quo 0 ((e : Rat) / 4) = 0 := by simp only [ex]; grind
  have Q := V.op .quo rfl P hq (fun _ => by grind) (by rw [s3]; exact r0)
  rwa [s3] at Q
/-- Twice the tick that is allowed is not allowed. -/
theorem most_twice (h : SV s a b c d p l) (he : 1 ≤ e ∧ e ≤ 8) (hq : V .f32 (cn .f32 q) ((e : Rat) / 4)) : fle .f32 (fop .mul .f32 (mostV s q) (cn .f32 1073741824)) (mostV s q) = false := by
  obtain ⟨⟨m0, m1, m2⟩, _⟩ := most_val h he hq
  have r64 : Rep .f32 ((1 : Rat) / 128) := rep_at (k := .f32) 1 (-7) (by decide) (by decide) (by decide) (by have := tp_n7'; have e1 : ((1 : Int) : Rat) = 1 := rfl; rw [e1]; grind)
  have r32 : Rep .f32 (32 : Rat) := Rep.int (k := .f32) 32 (by decide)
  have N := fop_rnd .mul rfl .f32 m0 V2.1 (by simp) 5 (by decide) (by simp only [ex]; rw [V2.2, tpq5]; grind) (by simp only [ex]; rw [V2.2, tpq5]; grind)
  simp only [ex] at N
  rw [V2.2] at N
  obtain ⟨n0, n1⟩ := N
  obtain ⟨r1, r2⟩ := rnd_rel n1 (M := fv .f32 (mostV s q) * 2) (Rat.le_refl) (by grind)
  have t1 : tp (-(FloatKind.f32.format.fractionBits : Int)) ≤ 1 / 1000 := by
    have : tp (-(FloatKind.f32.format.fractionBits : Int)) ≤ tp (-17) := tp_le (by decide)
    have := tp_n17; grind
  have t2 : tp FloatKind.f32.format.leastPlace ≤ tp (-17) := tp_le (by decide)
  have t0 := tp_pos (-(FloatKind.f32.format.fractionBits : Int))
  have t17 := tp_n17
  have e1 := Rat.mul_le_mul_of_nonneg_left t1 (show 0 ≤ fv .f32 (mostV s q) * 2 by grind)
  rw [flev n0 m0]
  exact decide_eq_false (by grind)
/-- Heat is kept, as the law says it. -/
theorem heat_kept {xs : List Nat} (h : TK s a b c d p l q e (cn .f32 t)) (hb : HB xs 8) (hn : 1 ≤ xs.length ∧ xs.length ≤ 7) {k : Nat} (hk : k ≤ 11) : fgt .f64 (gapC (wide (heatB q xs)) (wide (heatB q (brX s q 0 0 false false t xs k)))) (fop .mul .f64 cHun (fop .add .f64 cOne64 (gapC (wide (heatB q xs)) (cn .f64 0)))) = false := by
  obtain ⟨l1, _, s1, s2⟩ := run_shut h hb hn.1 k (by omega)
  obtain ⟨⟨n0, n1, n2⟩, nb⟩ := heat_near h.he h.hq (fun j hj => (hb j hj).mono (by grind)) hn.2
  obtain ⟨⟨m0, m1, m2⟩, mb⟩ := heat_near (xs := brX s q 0 0 false false t xs k) h.he h.hq (run_nine h hb hn.1 (by omega)) (by rw [l1]; exact hn.2)
  have he := h.he
  have E1 : ((1 : Int) : Rat) ≤ (e : Rat) := icast_le he.1
  have E2 : (e : Rat) ≤ ((8 : Int) : Rat) := icast_le he.2
  have kb : (k : Rat) ≤ ((11 : Nat) : Rat) := by exact_mod_cast hk
  have k0 : (0 : Rat) ≤ (k : Rat) := by exact_mod_cast Nat.zero_le k
  have lb : ((xs.length : Nat) : Rat) ≤ ((7 : Nat) : Rat) := by exact_mod_cast hn.2
  have l0 : (0 : Rat) ≤ (xs.length : Rat) := by exact_mod_cast Nat.zero_le _
  have e11 : ((11 : Nat) : Rat) = 11 := rfl
  have e7 : ((7 : Nat) : Rat) = 7 := rfl
  rw [e11] at kb
  rw [e7] at lb
  have t17 := tp_n17
  have t19 := tp_n19
  have t0 := tp_pos (-19)
  have a1 := Rat.mul_le_mul_of_nonneg_right lb (show 0 ≤ 6 * tp (-19) by grind)
  have a0 := Rat.mul_nonneg l0 (show 0 ≤ 6 * tp (-19) by grind)
  have a2 := Rat.mul_le_mul_of_nonneg_left a1 k0
  have a3 := Rat.mul_le_mul_of_nonneg_right kb (show 0 ≤ 7 * (6 * tp (-19)) by grind)
  have d := mul_bd (a := 462 * tp (-19)) (b := 2) (x := sumX (brX s q 0 0 false false t xs k) - sumX xs) (y := (e : Rat) / 4) (by grind) (by grind) (by grind) (by grind)
  exact gap_kept nb mb.1 (by grind) (by grind)
end
end Go.Proofs.Ytjeeflldbhajiaa
set_option linter.unusedSimpArgs false
set_option linter.unusedVariables false
set_option linter.unusedSectionVars false
namespace Go.Proofs.Ytjeeflldbhajiaa
open Go Go.RowKit
/-- A number of a format. -/
def Rp (f : Ieee.Format) (r : Rat) : Prop := ∃ z q : Int, z.natAbs < 2 ^ (f.fractionBits + 1) ∧ f.leastPlace ≤ q ∧ r = z * tp q
theorem Rp.neg {f : Ieee.Format} {r : Rat} (h : Rp f r) : Rp f (-r) := by
  obtain ⟨z, q, h1, h2, rfl⟩ := h
  exact ⟨-z, q, by omega, h2, by rw [Rat.intCast_neg]; grind⟩
theorem rp_word {k : FloatKind} {x : Nat} (h : fnt k x = true) : Rp k.format (fv k x) := by
  unfold fnt at h
  cases e : k.format.read x with
  | number s m p =>
    obtain ⟨g1, g2, g3⟩ := read_bd _ e
    refine ⟨if s then -(m : Int) else m, p, by split <;> omega, g2, ?_⟩
    rw [(fv_of e).2]
    cases s
    · simp only [sg, Bool.false_eq_true, if_false, Rat.intCast_natCast]; grind
    · simp only [sg, if_true, Rat.intCast_neg, Rat.intCast_natCast]; grind
  | _ => rw [e] at h; simp [isNum] at h
end Go.Proofs.Ytjeeflldbhajiaa
set_option linter.unusedSimpArgs false
set_option linter.unusedVariables false
set_option linter.unusedSectionVars false
namespace Go.Proofs.Ytjeeflldbhajiaa
open Go Go.RowKit
/-- A part of the longest tick. -/
def tickT (m : Nat) (j : Int) : Nat := fop .quo .f32 (fop .mul .f32 m (cn .f32 (floatOfInt .f32 (1 + j)))) (cn .f32 1090519040)
/-- Scaled by a power of two. -/
theorem rnd_le_up {k : FloatKind} {x : Nat} {v r : Rat} (hx : fnt k x = true) (n : Nat) (h : Rnd k.format v r) (hv : v ≤ fv k x * tp n) : r ≤ fv k x * tp n := by
  obtain ⟨z, q, hz, hq, e⟩ := rp_word hx
  have e2 : fv k x * tp n = z * tp (q + n) := by rw [e, tp_add]; grind
  rw [e2] at hv ⊢
  exact h.le hz (by omega) hv
theorem rnd_ge_word {k : FloatKind} {x : Nat} {v r : Rat} (hx : fnt k x = true) (h : Rnd k.format v r) (hv : fv k x ≤ v) : fv k x ≤ r := by
  obtain ⟨z, q, hz, hq, e⟩ := rp_word hx
  rw [e] at hv ⊢
  exact h.ge hz hq hv
theorem rnd_le_word {k : FloatKind} {x : Nat} {v r : Rat} (hx : fnt k x = true) (h : Rnd k.format v r) (hv : v ≤ fv k x) : r ≤ fv k x := by
  obtain ⟨z, q, hz, hq, e⟩ := rp_word hx
  rw [e] at hv ⊢
  exact h.le hz hq hv
theorem tp3 : tp 3 = 8 := (tp_nat 3).trans rfl
/-- A part of a tick that is not great: no greater. -/
theorem part_tick {m : Nat} (h0 : fnt .f32 m = true) (h1 : (1 : Rat) / 256 ≤ fv .f32 m) (h2 : fv .f32 m ≤ 16) {j : Int} (hj : 0 ≤ j ∧ j ≤ 7) : fnt .f32 (tickT m j) = true ∧ 0 < fv .f32 (tickT m j) ∧ fv .f32 (tickT m j) ≤ fv .f32 m := by
  have hn : V .f32 (cn .f32 (floatOfInt .f32 (1 + j))) ((1 + j : Int) : Rat) := (V.int .f32 (1 + j) (show (1 + j).natAbs < 16777216 by omega)).cn
  have j1 : ((1 : Int) : Rat) ≤ ((1 + j : Int) : Rat) := icast_le (by omega)
  have j2 : ((1 + j : Int) : Rat) ≤ ((8 : Int) : Rat) := icast_le (by omega)
  have e1 : ((1 : Int) : Rat) = 1 := rfl
  have e8 : ((8 : Int) : Rat) = 8 := rfl
  rw [e1] at j1
  rw [e8] at j2
  unfold tickT
  generalize cn .f32 (floatOfInt .f32 (1 + j)) = N at hn ⊢
  generalize ((1 + j : Int) : Rat) = n at *
  have p1 := Rat.mul_le_mul_of_nonneg_left j1 (show 0 ≤ fv .f32 m by grind)
  have p2 := Rat.mul_le_mul_of_nonneg_left j2 (show 0 ≤ fv .f32 m by grind)
  obtain ⟨y0, y1⟩ := fop_rnd .mul rfl .f32 h0 hn.1 (by simp) 7 (by decide) (by rw [tp7]; simp only [ex]; rw [hn.2]; grind) (by rw [tp7]; simp only [ex]; rw [hn.2]; grind)
  simp only [ex] at y1
  rw [hn.2] at y1
  have a1 := rnd_ge_word h0 y1 (by grind)
  have a2 := rnd_le_up h0 3 y1 (by rw [show ((3 : Nat) : Int) = 3 from rfl, tp3]; grind)
  rw [show ((3 : Nat) : Int) = 3 from rfl, tp3] at a2
  generalize fop .mul .f32 m N = y at *
  obtain ⟨z0, z1⟩ := fop_rnd .quo rfl .f32 y0 V8.1 (fun _ => by rw [V8.2]; grind) 7 (by decide) (by rw [tp7]; simp only [ex]; rw [V8.2]; grind) (by rw [tp7]; simp only [ex]; rw [V8.2]; grind)
  simp only [ex] at z1
  rw [V8.2] at z1
  have r := Rep.tp (k := .f32) (-12) (by decide) (by decide)
  have t12 : tp (-12) * 4096 = 1 := by
    have h : tp (-12) * tp 12 = 1 := by rw [← tp_add]; exact tp_zero
    rwa [show tp 12 = 4096 from (tp_nat 12).trans rfl] at h
  have b1 := z1.rep_ge r (by grind)
  have b2 := rnd_le_word h0 z1 (by grind)
  exact ⟨z0, by have := tp_pos (-12); grind, b2⟩
theorem gap_same {x y : Nat} (hx : fnt .f64 x = true) (hy : fnt .f64 y = true) (h : fv .f64 x = fv .f64 y) : V .f64 (gapC x y) 0 := by
  have z : Rep .f64 (0 : Rat) := Rep.int (k := .f64) 0 (by decide)
  obtain ⟨g0, g1, g2⟩ := gapC_btw hx hy z (by rw [h]; grind) (by rw [h]; grind)
  exact ⟨g0, Rat.le_antisymm g2 g1⟩
/-- Equal values: no more apart than any bound. -/
theorem gap_kept0 {x y : Nat} (hx : Bnd .f64 x 1000) (hy : fnt .f64 y = true) (h : fv .f64 y = fv .f64 x) : fgt .f64 (gapC y x) (fop .mul .f64 cTho (fop .add .f64 cOne64 (gapC x (cn .f64 0)))) = false := by
  obtain ⟨b0, b1, b2⟩ := hx
  have G := gap_same hy b0 h
  obtain ⟨t0, t1, t2⟩ := cTho_pos
  have r1000 : Rep .f64 (1000 : Rat) := Rep.int (k := .f64) 1000 (by decide)
  have r1001 : Rep .f64 (1001 : Rat) := Rep.int (k := .f64) 1001 (by decide)
  have r1 : Rep .f64 (1 : Rat) := Rep.int (k := .f64) 1 (by decide)
  have r0 : Rep .f64 (0 : Rat) := Rep.int (k := .f64) 0 (by decide)
  obtain ⟨k0, k1, k2⟩ := gapC_btw b0 vZero64.1 r1000 (by rw [vZero64.2]; grind) (by rw [vZero64.2]; grind)
  obtain ⟨s0, s1, s2⟩ := fop_btw .add rfl .f64 (a := 1) (b := 1001) vOne64.1 k0 (by simp) r1 r1001 (by simp only [ex]; rw [vOne64.2]; grind) (by simp only [ex]; rw [vOne64.2]; grind)
  have m1 := Rat.mul_nonneg t1 (show 0 ≤ fv .f64 (fop .add .f64 cOne64 (gapC x (cn .f64 0))) by grind)
  have m2 := Rat.mul_le_mul_of_nonneg_right t2 (show 0 ≤ fv .f64 (fop .add .f64 cOne64 (gapC x (cn .f64 0))) by grind)
  obtain ⟨p0, p1, p2⟩ := fop_btw .mul rfl .f64 (a := 0) (b := 1001) t0 s0 (by simp) r0 r1001 (by simp only [ex]; grind) (by simp only [ex]; grind)
  rw [fgtv G.1 p0, G.2]
  exact decide_eq_false (by grind)
theorem gap_zero {x : Nat} (hx : V .f32 x 0) : fgt .f64 (gapC (wide x) (cn .f64 0)) cTho = false := by
  obtain ⟨w0, w1⟩ := wide_val hx.1
  have G := gap_same w0 vZero64.1 (by rw [w1, hx.2, vZero64.2])
  obtain ⟨t0, t1, t2⟩ := cTho_pos
  rw [fgtv G.1 t0, G.2]
  exact decide_eq_false (by grind)
theorem wide_bnd {x : Nat} {b : Rat} (h : Bnd .f32 x b) : Bnd .f64 (wide x) b := by
  obtain ⟨w0, w1⟩ := wide_val h.1
  exact ⟨w0, by rw [w1]; exact h.2.1, by rw [w1]; exact h.2.2⟩
/-- No more molten than there is. -/
theorem melt_most {M q : Nat} {n : Nat} {e : Int} (he : 1 ≤ e ∧ e ≤ 8) (hn : n ≤ 48) (hq : V .f32 (cn .f32 q) ((e : Rat) / 4)) (h : Btw .f32 M 0 (((n : Int) * e : Int) / 4 : Rat)) : flt .f32 M (cn .f32 0) = false ∧ fgt .f64 (wide M) (fop .add .f64 (fop .mul .f64 (wide (cn .f32 q)) (cn .f64 (floatOfInt .f64 (n : Int)))) cTho) = false := by
  obtain ⟨m0, m1, m2⟩ := h
  constructor
  · rw [fltv m0 V0.1, V0.2]; exact decide_eq_false (by grind)
  · obtain ⟨w0, w1⟩ := wide_val m0
    obtain ⟨q0, q1⟩ := wide_val hq.1
    have hN : V .f64 (cn .f64 (floatOfInt .f64 (n : Int))) ((n : Int) : Rat) := (V.int .f64 (n : Int) (show (n : Int).natAbs < 2 ^ 53 by omega)).cn
    have ne : (n : Int) * e ≤ 48 * 8 := Int.mul_le_mul (by omega) he.2 (by omega) (by omega)
    have ne0 : 0 ≤ (n : Int) * e := Int.mul_nonneg (by omega) (by omega)
    have r : Rep .f64 ((((n : Int) * e : Int) : Rat) / 4) := rep64 ((n : Int) * e) (-2) (by omega) (by decide) (by decide) (by have := tp_n2; grind)
    have r2 : Rep .f64 (1000 : Rat) := Rep.int (k := .f64) 1000 (by decide)
    have P := V.op .mul rfl (show V .f64 (wide (cn .f32 q)) ((e : Rat) / 4) from ⟨q0, by rw [q1, hq.2]⟩) hN (by simp) (by simp only [ex]; rw [show (e : Rat) / 4 * ((n : Int) : Rat) = (((n : Int) * e : Int) : Rat) / 4 by rw [Rat.intCast_mul]; grind]; exact r)
    have eP : ex .mul ((e : Rat) / 4) ((n : Int) : Rat) = (((n : Int) * e : Int) : Rat) / 4 := by simp only [ex]; rw [Rat.intCast_mul]; grind
    rw [eP] at P
    obtain ⟨t0, t1, t2⟩ := cTho_pos
    have up : ((((n : Int) * e : Int) : Rat) / 4) ≤ 96 := by
      have : (((n : Int) * e : Int) : Rat) ≤ ((384 : Int) : Rat) := icast_le (by omega)
      have e3 : ((384 : Int) : Rat) = 384 := rfl
      grind
    obtain ⟨s0, s1, _⟩ := fop_btw .add rfl .f64 (b := 1000) P.1 t0 (by simp) r r2 (by simp only [ex]; rw [P.2]; grind) (by simp only [ex]; rw [P.2]; grind)
    rw [fgtv w0 s0, w1]
    exact decide_eq_false (by grind)
/-- A tick of a bar in which all is equal, held at its own warmth. -/
theorem stb_even {p : Nat} {xs : List Nat} {f : Nat → Nat} {t i : Nat} {z : Int} {e : Int} (he : 1 ≤ e ∧ e ≤ 8) (hz : z.natAbs < 16777216) (hx : V .f32 (cn .f32 (xs.getD i 0)) ((z : Rat) / 2)) (h1 : V .f32 (f i) 0) (h2 : V .f32 (f (i + 1)) 0) (ht : fnt .f32 (cn .f32 t) = true) (hp : V .f32 (cn .f32 p) ((e : Rat) / 4)) : V .f32 (stbB p xs f t i) ((z : Rat) / 2) := by
  have r0 : Rep .f32 (0 : Rat) := Rep.int (k := .f32) 0 (by decide)
  have E1 : ((1 : Int) : Rat) ≤ (e : Rat) := icast_le he.1
  have s1 : ex .sub (0 : Rat) 0 = 0 := by simp only [ex]; grind
  have A := V.op .sub rfl h1 h2 (by simp) (by rw [s1]; exact r0)
  rw [s1] at A
  have s2 : ex .mul (fv .f32 (cn .f32 t)) 0 = 0 := by simp only [ex]; grind
  have B := V.op .mul rfl (show V .f32 (cn .f32 t) (fv .f32 (cn .f32 t)) from ⟨ht, rfl⟩) A (by simp) (by rw [s2]; exact r0)
  rw [s2] at B
  have s3 : ex .quo 0 ((e : Rat) / 4) = 0 := by simp only [ex]; grind
  have C := V.op .quo rfl B hp (fun _ => by grind) (by rw [s3]; exact r0)
  rw [s3] at C
  have s4 : ex .add ((z : Rat) / 2) 0 = (z : Rat) / 2 := by simp only [ex]; grind
  have D := V.op .add rfl hx C (by simp) (by rw [s4]; exact rep_half hz)
  rwa [s4] at D
section
variable {s : St} {a b c d p l : Int} {q : Nat} {e : Int} {t : Nat} {X F : Nat}
/-- Bars of finite heats and warmths are valid. -/
theorem bar_ok' (h : SV s a b c d p l) (he : 1 ≤ e ∧ e ≤ 8) (hq : V .f32 (cn .f32 q) ((e : Rat) / 4)) {xs : List Nat} (hn : 1 ≤ xs.length ∧ xs.length ≤ 48) (hb : ∀ j, j < xs.length → fnt .f32 (cn .f32 (xs.getD j 0)) = true ∧ fnt .f32 (warmC s.k (cn .f32 (xs.getD j 0))) = true) : barOk s q xs = true := by
  unfold barOk
  rw [h.ok, step_abv he hq, decide_eq_true hn.1, decide_eq_true hn.2, any_noneB fun j hj => ?_]
  · rfl
  · obtain ⟨b1, b2⟩ := hb j hj
    unfold badC
    have e1 : fin .f32 (cn .f32 (xs.getD j 0)) = true := by rw [fin_num]; exact b1
    have e2 : fin .f32 (warmC s.k (cn .f32 (xs.getD j 0))) = true := by rw [fin_num]; exact b2
    rw [e1, e2]; rfl
theorem evenX_at (s : St) (t f k : Nat) (hk : k < 5) : (evenX s 5 t f).getD k 0 = evenH s t f := by
  have : evenX s 5 t f = List.replicate 5 (evenH s t f) := rfl
  rw [this, List.getD_eq_getElem?_getD, List.getElem?_replicate, if_pos hk]; rfl
/-- All about an even bar. -/
structure EV (s : St) (q t X F : Nat) : Prop where
  ok : evenOk s 5 q X F = true
  st : stbOk s q (evenX s 5 X F) X X true true t = true
  fl : flowsOk s q (evenX s 5 X F) = true
  gap : ∀ k, k < 5 → fgt .f64 (gapC (wide (cn .f32 ((stbX s q (evenX s 5 X F) X X true true t).getD k 0))) (wide (cn .f32 ((evenX s 5 X F).getD k 0)))) (fop .mul .f64 cTho (fop .add .f64 cOne64 (gapC (wide (cn .f32 ((evenX s 5 X F).getD k 0))) (cn .f64 0)))) = false
  ff : ∀ k, k < 4 → fnt .f32 (flowB s q (cn .f32 ((evenX s 5 X F).getD k 0)) (cn .f32 ((evenX s 5 X F).getD (k + 1) 0))) = true
  no : ∀ k, k < 4 → fgt .f64 (gapC (wide (flowB s q (cn .f32 ((evenX s 5 X F).getD k 0)) (cn .f32 ((evenX s 5 X F).getD (k + 1) 0)))) (cn .f64 0)) cTho = false
theorem ev_of (h : TK s a b c d p l q e (cn .f32 t)) (hX : cn .f32 X = fop .add .f32 (cn .f32 s.p) (cn .f32 1077936128)) (hF : shr (cn .f32 F) = true) : EV s q t X F := by
  have sv := h.sv
  have hb := sv.bd
  have he := h.he
  have hq := h.hq
  have E1 : ((1 : Int) : Rat) ≤ (e : Rat) := icast_le he.1
  have v3 : V .f32 (cn .f32 1077936128) ((3 : Int) : Rat) := by
    have e3 : cn .f32 1077936128 = floatOfInt .f32 3 := by decide +kernel
    rw [e3]; exact V.int .f32 3 (by decide)
  have s0 : ex .add (p : Rat) ((3 : Int) : Rat) = ((p + 3 : Int) : Rat) := by simp only [ex]; rw [Rat.intCast_add]
  have vX : V .f32 (cn .f32 X) ((p + 3 : Int) : Rat) := by
    have A := V.op .add rfl sv.P v3 (by simp) (by rw [s0]; exact rep_int (by omega))
    rw [s0] at A
    rw [hX]; exact A
  have vH : V .f32 (evenH s X F) (((3 * b + l : Int) : Rat) / 2) := even_heat (F := cn .f32 F) sv vX
  have vE : ∀ k, k < 5 → V .f32 (cn .f32 ((evenX s 5 X F).getD k 0)) (((3 * b + l : Int) : Rat) / 2) := fun k hk => by rw [evenX_at s X F k hk]; exact vH.cn
  have ln : (evenX s 5 X F).length = 5 := by simp [evenX]
  have bok : barOk s q (evenX s 5 X F) = true := bar_ok' sv he hq (by rw [ln]; decide) fun j hj => by
    rw [ln] at hj
    have v := vE j hj
    exact ⟨v.1, (even_warm sv v).1.1⟩
  have hfl : ∀ k, k < 4 → V .f32 (flowB s q (cn .f32 ((evenX s 5 X F).getD k 0)) (cn .f32 ((evenX s 5 X F).getD (k + 1) 0))) 0 := fun k hk => by
    rw [evenX_at s X F k (by omega), evenX_at s X F (k + 1) (by omega)]
    exact even_flow sv he hq vH.cn
  have side : V .f32 (fop .sub .f32 (cn .f32 X) (warmC s.k (cn .f32 (evenH s X F)))) 0 ∧ V .f32 (fop .sub .f32 (warmC s.k (cn .f32 (evenH s X F))) (cn .f32 X)) 0 := by
    have W := (even_warm sv vH.cn).1
    have r0 : Rep .f32 (0 : Rat) := Rep.int (k := .f32) 0 (by decide)
    have s1 : ex .sub ((p + 3 : Int) : Rat) ((p + 3 : Int) : Rat) = 0 := by simp only [ex]; grind
    have A := V.op .sub rfl vX W (by simp) (by rw [s1]; exact r0)
    have B := V.op .sub rfl W vX (by simp) (by rw [s1]; exact r0)
    rw [s1] at A B
    exact ⟨A, B⟩
  have endv : ∀ {u : Nat}, V .f32 u 0 → V .f32 (fop .quo .f32 (fop .mul .f32 (easeC s.k (cn .f32 (evenH s X F))) u) (cn .f32 q)) 0 := fun {u} hu => by
    have E := (even_warm sv vH.cn).2
    have r0 : Rep .f32 (0 : Rat) := Rep.int (k := .f32) 0 (by decide)
    have s2 : ex .mul ((d : Rat) / 4) 0 = 0 := by simp only [ex]; grind
    have P := V.op .mul rfl E hu (by simp) (by rw [s2]; exact r0)
    rw [s2] at P
    have s3 : ex .quo 0 ((e : Rat) / 4) = 0 := by simp only [ex]; grind
    have Q := V.op .quo rfl P hq (fun _ => by grind) (by rw [s3]; exact r0)
    rwa [s3] at Q
  have hfA : ∀ i, i ≤ 5 → V .f32 (flA s q (evenX s 5 X F) X X true true i) 0 := fun i hi => by
    unfold flA
    by_cases h0 : i = 0
    · rw [if_pos h0]; unfold inV; rw [if_pos rfl, evenX_at s X F 0 (by omega)]; exact endv side.1
    · rw [if_neg h0]
      by_cases h5 : i = (evenX s 5 X F).length
      · rw [if_pos h5]; unfold outV; rw [if_pos rfl, ln, evenX_at s X F (5 - 1) (by omega)]; exact endv side.2
      · rw [if_neg h5]
        rw [ln] at h5
        have := hfl (i - 1) (by omega)
        rwa [show i - 1 + 1 = i by omega] at this
  have zb : (3 * b + l : Int).natAbs < 16777216 := by omega
  have vS : ∀ k, k < 5 → V .f32 (stbB q (evenX s 5 X F) (flA s q (evenX s 5 X F) X X true true) t k) (((3 * b + l : Int) : Rat) / 2) := fun k hk =>
    stb_even he zb (vE k hk) (hfA k (by omega)) (hfA (k + 1) (by omega)) h.hT hq
  have lnS : (stbX s q (evenX s 5 X F) X X true true t).length = 5 := by unfold stbX; rw [stbL_len, ln]
  have gS : ∀ k, k < 5 → V .f32 (cn .f32 ((stbX s q (evenX s 5 X F) X X true true t).getD k 0)) (((3 * b + l : Int) : Rat) / 2) := fun k hk => by
    have : (stbX s q (evenX s 5 X F) X X true true t).getD k 0 = stbB q (evenX s 5 X F) (flA s q (evenX s 5 X F) X X true true) t k := by
      unfold stbX stbL
      rw [ln, List.getD_eq_getElem?_getD, List.getElem?_map, List.getElem?_range hk]; rfl
    rw [this]; exact (vS k hk).cn
  refine ⟨?_, ?_, ?_, fun k hk => ?_, fun k hk => (hfl k hk).1, fun k hk => gap_zero (hfl k hk)⟩
  · unfold evenOk okFor
    rw [sv.ok, vX.fin, hF, bok]; rfl
  · obtain ⟨⟨m0, _, _⟩, _⟩ := most_val sv he hq
    have fm : fin .f32 (mostV s q) = true := by rw [fin_num]; exact m0
    have le : fle .f32 (cn .f32 t) (mostV s q) = true := by rw [flev h.hT m0]; exact decide_eq_true h.t1
    have b2 : barOk s q (stbX s q (evenX s 5 X F) X X true true t) = true := bar_ok' sv he hq (by rw [lnS]; decide) fun j hj => by
      rw [lnS] at hj
      have v := gS j hj
      exact ⟨v.1, (even_warm sv v).1.1⟩
    unfold stbOk canB
    rw [bok, fm, vX.fin, abv_of h.hT h.t0, le, b2]; rfl
  · unfold flowsOk flowsL
    rw [bok, ln]
    have : ((List.range (5 - 1)).map fun j => flowB s q (cn .f32 ((evenX s 5 X F).getD j 0)) (cn .f32 ((evenX s 5 X F).getD (j + 1) 0))).any (fun x => !fin .f32 x) = false := by
      rw [List.any_eq_false]
      intro x hx
      obtain ⟨j, hj, rfl⟩ := List.mem_map.1 hx
      have := (hfl j (by simpa using hj)).fin
      rw [this]; simp
    rw [this]; rfl
  · have v1 := gS k hk
    have v2 := vE k hk
    have bd : Bnd .f32 (cn .f32 ((evenX s 5 X F).getD k 0)) 1000 := by
      have u1 : ((3 * b + l : Int) : Rat) ≤ ((1000 : Int) : Rat) := icast_le (by omega)
      have u2 : ((-1000 : Int) : Rat) ≤ ((3 * b + l : Int) : Rat) := icast_le (by omega)
      have e1 : ((1000 : Int) : Rat) = 1000 := rfl
      have e2 : ((-1000 : Int) : Rat) = -1000 := rfl
      exact ⟨v2.1, by rw [v2.2]; grind, by rw [v2.2]; grind⟩
    exact gap_kept0 (wide_bnd bd) (wide_val v1.1).1 (by rw [(wide_val v1.1).2, (wide_val v2.1).2, v1.2, v2.2])
/-- What the law asks of a run. -/
structure BA (s : St) (q : Nat) (xs : List Nat) (t : Nat) : Prop where
  bok : barOk s q xs = true
  mf : fnt .f32 (mostV s q) = true
  mp : fle .f32 (mostV s q) (cn .f32 0) = false
  run : ∀ n : Nat, n ≤ 11 → brB s q 0 0 false false t xs n = true
  len : ∀ k, k ≤ 12 → (brX s q 0 0 false false t xs k).length = xs.length
  rok : ∀ k, k ≤ 12 → barOk s q (brX s q 0 0 false false t xs k) = true
  hB : fnt .f32 (heatB q xs) = true
  hA : ∀ k, k ≤ 11 → fnt .f32 (heatB q (brX s q 0 0 false false t xs k)) = true
  kept : ∀ k, k ≤ 11 → fgt .f64 (gapC (wide (heatB q xs)) (wide (heatB q (brX s q 0 0 false false t xs k)))) (fop .mul .f64 cHun (fop .add .f64 cOne64 (gapC (wide (heatB q xs)) (cn .f64 0)))) = false
  stp : ∀ k, k ≤ 11 → stbOk s q (brX s q 0 0 false false t xs k) 0 0 false false t = true
  mel : ∀ k, k ≤ 12 → fnt .f32 (brH s q 0 0 false false t xs k) = true ∧ flt .f32 (brH s q 0 0 false false t xs k) (cn .f32 0) = false ∧ fgt .f64 (wide (brH s q 0 0 false false t xs k)) (fop .add .f64 (fop .mul .f64 (wide (cn .f32 q)) (cn .f64 (floatOfInt .f64 (xs.length : Int)))) cTho) = false
  ten : ∀ T, cn .f32 T = fop .mul .f32 (mostV s q) (cn .f32 1073741824) → stbOk s q xs 0 0 false false T = false
theorem ba_of {xs : List Nat} (h : TK s a b c d p l q e (cn .f32 t)) (hb : HB xs 8) (hn : 1 ≤ xs.length ∧ xs.length ≤ 7) : BA s q xs t := by
  obtain ⟨⟨m0, m1, m2⟩, _⟩ := most_val h.sv h.he h.hq
  have hn' : 1 ≤ xs.length ∧ xs.length ≤ 48 := ⟨hn.1, by omega⟩
  have l12 : ∀ k, k ≤ 12 → (brX s q 0 0 false false t xs k).length = xs.length := fun k hk => (run_shut h hb hn.1 k hk).1
  have n12 : ∀ k, k ≤ 12 → HB (brX s q 0 0 false false t xs k) 9 := fun k hk => run_nine h hb hn.1 hk
  have r12 : ∀ k, k ≤ 12 → barOk s q (brX s q 0 0 false false t xs k) = true := fun k hk => bar_ok h.sv h.he h.hq (n12 k hk) (by rw [l12 k hk]; exact hn')
  refine ⟨r12 0 (by omega), m0, by rw [flev m0 V0.1, V0.2]; exact decide_eq_false (by grind), fun n hn0 => ?_, l12, r12, (heat_near h.he h.hq (n12 0 (by omega)) hn.2).2.1, fun k hk => (heat_near (xs := brX s q 0 0 false false t xs k) h.he h.hq (n12 k (by omega)) (by rw [l12 k (by omega)]; exact hn.2)).2.1, fun k hk => heat_kept h hb hn hk, fun k hk => ?_, fun k hk => ?_, fun T hT => ?_⟩
  · unfold brB brPre inB
    rw [show canB s q xs 0 0 t = true from h.can (n12 0 (by omega)) hn', show ((n : Int)).toNat = n from rfl, run_ok h hb hn' n (by omega), decide_eq_true (show (0 : Int) ≤ n by omega), decide_eq_true (show (n : Int) ≤ 128 by omega)]
    rfl
  · have := r12 (k + 1) (by omega)
    unfold stbOk
    rw [h.can (n12 k (by omega)) (by rw [l12 k (by omega)]; exact hn')]
    exact this
  · have M := melt_in h.sv h.he h.hq (n12 k hk) (by rw [l12 k hk]; exact hn'.2)
    rw [l12 k hk] at M
    have := melt_most h.he hn'.2 h.hq M
    exact ⟨M.1, this.1, this.2⟩
  · have := most_twice h.sv h.he h.hq
    unfold stbOk canB
    rw [hT, this]
    simp
end
end Go.Proofs.Ytjeeflldbhajiaa
