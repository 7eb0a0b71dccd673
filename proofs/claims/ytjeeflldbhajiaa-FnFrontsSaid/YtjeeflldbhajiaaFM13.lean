/-
  What the law on bars calls, with drawn bars. No condition but what each contract says.
  The error function in single precision: the law. True for every input. No condition.
  What the law on fronts calls, with drawn stuffs. No condition but what each contract says.
  The law on fronts: bars that are warmed melt more and more, nearly, fronts lie within them, and fronts of a warm side go on by roots of time, nearly: true for every input. No condition.
-/
import Derived.Test.YtjeeflldbhajiaaFM7
import Derived.Test.YtjeeflldbhajiaaFM12
import Derived.Test.YtjeeflldbhajiaaFM8
import Derived.Test.YtjeeflldbhajiaaFM10
import Derived.Test.YtjeeflldbhajiaaFM9
import Derived.Deep.CutRange
set_option linter.unusedSimpArgs false
set_option linter.unusedVariables false
set_option linter.unusedSectionVars false
namespace Go.Proofs.Ytjeeflldbhajiaa
open Go Go.RowKit
open Go.ChangeShapes Go.WideShapes Go.ChangeAt Go.RowKit Go.Joins
theorem word_eq {k : FloatKind} {x c : Nat} (h : cn k x = c) (hf : fnt k c = true) : x = c := by
  cases hn : isN k x with
  | true =>
    rw [cn_of_isN hn] at h
    subst h
    have : fnt k (qn k) = false := by cases k <;> decide +kernel
    rw [this] at hf; cases hf
  | false => rwa [cn_of_not hn] at h
theorem gBy {ok : Bool} {c : Nat} (h : ok = true) (hf : fnt .f32 c = true) : gF ok c = c ∧ gB ok c = true := by
  have e : fin .f32 c = true := by rw [fin_num]; exact hf
  subst h
  unfold gF gB
  rw [if_pos rfl, chk_yes e, e]
  exact ⟨rfl, rfl⟩
theorem map_raw {ys L : List Nat} (h : ys.map (cn .f32) = L) (hf : ∀ j, j < L.length → fnt .f32 (L.getD j 0) = true) : ys = L := by
  have hl : ys.length = L.length := by rw [← h, List.length_map]
  apply List.ext_getElem hl
  intro j h1 h2
  have e : L[j] = cn .f32 ys[j] := by subst h; simp
  have f := hf j h2
  rw [List.getD_eq_getElem?_getD, List.getElem?_eq_getElem h2] at f
  exact word_eq e.symm f
theorem OF.apart {B b : Nat} {w : World} {u : Value} {xs : List Nat} (h : OF B w u xs) (hb : b < B) : u.ownBlock = none ∨ u.ownBlock ≠ some b := by
  cases hv : u.ownBlock with
  | none => exact .inl rfl
  | some k => refine .inr fun e => ?_; have := (h.block k hv).1; cases e; omega
theorem of_view {B : Nat} {w : World} {q : Option Addr} {n c : Nat} {xs : List Nat} (h : OF B w (.slice q n c) xs) (hl : xs.length = n) (hn : 0 < n) : ∃ b o, q = some ⟨b, o, none⟩ ∧ ∀ j, j < n → w.cell? ⟨b, o + j, none⟩ = some (.float .f32 (xs.getD j 0)) := by
  obtain ⟨p', c', e', _, _, hv⟩ := FS_view h.fs
  simp only [Value.slice.injEq] at e'
  obtain ⟨b, o, e1, _⟩ := hv 0 (by omega)
  refine ⟨b, o, e'.1.trans e1, fun j hj => ?_⟩
  obtain ⟨b2, o2, e2, h2⟩ := hv j (by omega)
  rw [e1] at e2
  simp only [Option.some.injEq, Addr.mk.injEq, and_true] at e2
  obtain ⟨rfl, rfl⟩ := e2
  exact h2
/-- A run's bar and numbers. -/
def RBX (w : World) (s : St) (q : Nat) (X L : List Nat) (m n : Nat) (e : Ending) (w' : World) : Prop := ∃ q1 c1 q2 c2, e = .returned (.tuple #[.agg #[.float .f32 s.a, .float .f32 s.b, .float .f32 s.c, .float .f32 s.d, .float .f32 s.p, .float .f32 s.l, .float .f32 q, .slice q1 m c1], .slice q2 n c2, .bool true]) ∧ Below w.heap.size w w' ∧ OF w.heap.size w' (.slice q1 m c1) X ∧ (OF w.heap.size w' (.slice q2 n c2) L ∨ L = [])
theorem ba_most {s : St} {q : Nat} {xs : List Nat} (h1 : barOk s q xs = true) (h2 : fnt .f32 (mostV s q) = true) (v : Value) (w : World) (hs : FS w v xs) : Calls Try.prog 23 #[.agg #[.float .f32 s.a, .float .f32 s.b, .float .f32 s.c, .float .f32 s.d, .float .f32 s.p, .float .f32 s.l, .float .f32 q, v]] w (BFB w .f32 (mostV s q) true) := by
  have h := implMostTick_any s q v xs w hs
  obtain ⟨e1, e2⟩ := gBy h1 h2
  rwa [e1, e2] at h
/-- A bar of the call's own, valid. -/
def BBY (w : World) (s : St) (q : Nat) (X : List Nat) (m : Nat) (e : Ending) (w' : World) : Prop := ∃ q1 c1, e = .returned (.tuple #[.agg #[.float .f32 s.a, .float .f32 s.b, .float .f32 s.c, .float .f32 s.d, .float .f32 s.p, .float .f32 s.l, .float .f32 q, .slice q1 m c1], .bool true]) ∧ Below w.heap.size w w' ∧ OF w.heap.size w' (.slice q1 m c1) X
theorem bby_of {w w' : World} {s : St} {q : Nat} {X : List Nat} {e : Ending} {b0 : Bool} {m : Nat} (h : BBE w s q X b0 e w') (hb : b0 = true) (hm : X.length = m) : BBY w s q X m e w' := by
  obtain ⟨b, u, xs, ⟨rfl, rfl⟩, rfl, h1, h2⟩ := h
  subst hb
  subst hm
  obtain ⟨q1, c1, rfl⟩ := OF.shape h2
  exact ⟨q1, c1, rfl, h1, h2⟩
theorem ba_even {s : St} {q : Nat} {n : Int} {t f : Nat} {X : List Nat} (h1 : evenOk s n q t f = true) (hX : evenX s n t f = X) {m : Nat} (hm : X.length = m) (w : World) : Calls Try.prog 39 #[.agg #[.float .f32 s.a, .float .f32 s.b, .float .f32 s.c, .float .f32 s.d, .float .f32 s.p, .float .f32 s.l], .int .i64 n, .float .f32 q, .float .f32 t, .float .f32 f] w (BBY w s q X m) := by
  have h := implEven_any s n q t f w
  rw [hX] at h
  exact h.mono fun e w' hh => bby_of hh h1 hm
theorem ba_run {s : St} {q : Nat} {xs X L : List Nat} {l g : Nat} {b1 b2 : Bool} {t n : Nat} (h1 : brB s q l g b1 b2 t xs n = true) (hX : brX s q l g b1 b2 t xs n = X) (hL : brL s q l g b1 b2 t xs n = L) {m : Nat} (hm : X.length = m) (hn : L.length = n) (hf : ∀ j, j < L.length → fnt .f32 (L.getD j 0) = true) (v : Value) (w : World) (hs : FS w v xs) : Calls Try.prog 44 #[.agg #[.float .f32 s.a, .float .f32 s.b, .float .f32 s.c, .float .f32 s.d, .float .f32 s.p, .float .f32 s.l, .float .f32 q, v], .float .f32 l, .float .f32 g, .bool b1, .bool b2, .float .f32 t, .int .i64 n] w (RBX w s q X L m n) := by
  have h := implBrun_any s q v xs l g b1 b2 t (n : Int) w hs
  rw [h1] at h
  have e1 : bX true (brX s q l g b1 b2 t xs ((n : Int)).toNat) = X := hX
  have e2 : bX true (brL s q l g b1 b2 t xs ((n : Int)).toNat) = L := hL
  rw [e1, e2] at h
  refine h.mono ?_
  rintro e w' ⟨q0, c0, q1, c1, ys, rfl, hb, hO, hy, hmm⟩
  have := map_raw hmm hf
  subst this
  rw [hm] at hO ⊢
  rw [hn] at hy ⊢
  exact ⟨q0, c0, q1, c1, rfl, hb, hO, hy.imp (fun h => h.1) (fun h => h.1)⟩
theorem ba_gap {X Y : Nat} (x y : Nat) (w : World) (hx : cn .f64 x = X) (hy : cn .f64 y = Y) : Calls Try.prog 48 #[.float .f64 x, .float .f64 y] w (RF w .f64 (gapC X Y)) := hx ▸ hy ▸ b10GapC_any x y w
end Go.Proofs.Ytjeeflldbhajiaa
set_option linter.unusedSimpArgs false
set_option linter.unusedVariables false
set_option linter.unusedSectionVars false
namespace Go.Proofs.Ytjeeflldbhajiaa
open Go Go.RowKit
open Go.ChangeShapes Go.WideShapes Go.ChangeAt Go.RowKit Go.Joins
def erF (x : Nat) : Nat := if fin .f32 x then narrow (erV (wide x)) else cn .f32 0
set_option maxHeartbeats 1000000 in
theorem implErrorOf_any (x : Nat) (w : World) : Calls Try.prog 54 #[.float .f32 x] w (RFB w .f32 (erF (cn .f32 x)) (fin .f32 (cn .f32 x))) := by
  unfold erF
  rcases h0 : fin .f32 (cn .f32 x)
  · go_enter Try.func54, Try.ntmps54
    go_wp2_with (first | (with_reducible refine at_list ?_; refine wpList_fop rfl rfl rfl rfl rfl ?_; intro r n hr0; have hr := hr0 _ _ (by first | with_reducible assumption | exact rfl) (by first | with_reducible assumption | exact rfl); clear hr0) | (with_reducible refine at_list ?_; refine wpList_neg rfl rfl rfl ?_; intro r hr0; have hr := hr0 _ (by first | with_reducible assumption | exact rfl); clear hr0) | (with_reducible refine at_list ?_; refine wpList_fop_g rfl rfl rfl rfl rfl ?_; intro r n hr0; have hr := hr0 _ _ (by first | with_reducible assumption | exact rfl) (by first | with_reducible assumption | exact rfl); clear hr0) | (with_reducible refine at_list ?_; refine wpList_wide_g rfl rfl Try.underlying22 Try.underlying40 rfl ?_; intro r n hr0; have hr := hr0 _ (by first | with_reducible assumption | exact rfl); clear hr0) | (with_reducible refine at_list ?_; refine wpList_wide rfl rfl rfl Try.underlying22 Try.underlying40 ?_; intro r n hr0; have hr := hr0 _ (by first | with_reducible assumption | exact rfl); clear hr0) | (go_at_call 67; refine (IsFinite_any _ _).mono ?_; rintro e w' ⟨rfl, n, rfl⟩) | (go_at_call 100; refine (errorOf_any _ _).mono ?_; rintro e w' ⟨r, rfl, hr, n, rfl⟩))
    go_ret2
    exact ⟨_, rfl, rfl, _, rfl⟩
  · have HF := Lib.hid (erV_narrow h0).1
    go_enter Try.func54, Try.ntmps54
    go_wp2_with (first | (with_reducible refine at_list ?_; refine wpList_fop rfl rfl rfl rfl rfl ?_; intro r n hr0; have hr := hr0 _ _ (by first | with_reducible assumption | exact rfl) (by first | with_reducible assumption | exact rfl); clear hr0) | (with_reducible refine at_list ?_; refine wpList_neg rfl rfl rfl ?_; intro r hr0; have hr := hr0 _ (by first | with_reducible assumption | exact rfl); clear hr0) | (with_reducible refine at_list ?_; refine wpList_fop_g rfl rfl rfl rfl rfl ?_; intro r n hr0; have hr := hr0 _ _ (by first | with_reducible assumption | exact rfl) (by first | with_reducible assumption | exact rfl); clear hr0) | (with_reducible refine at_list ?_; refine wpList_wide_g rfl rfl Try.underlying22 Try.underlying40 rfl ?_; intro r n hr0; have hr := hr0 _ (by first | with_reducible assumption | exact rfl); clear hr0) | (with_reducible refine at_list ?_; refine wpList_wide rfl rfl rfl Try.underlying22 Try.underlying40 ?_; intro r n hr0; have hr := hr0 _ (by first | with_reducible assumption | exact rfl); clear hr0) | (with_reducible refine at_list ?_; refine wpList_narrow rfl rfl rfl Try.underlying40 Try.underlying22 (by with_reducible assumption) (by first | exact HF.out | (simp only [*]; exact HF.out)) ?_; intro r n hr) | (go_at_call 67; refine (IsFinite_any _ _).mono ?_; rintro e w' ⟨rfl, n, rfl⟩) | (go_at_call 100; refine (errorOf_any _ _).mono ?_; rintro e w' ⟨r, rfl, hr, n, rfl⟩))
    go_ret2
    exact ⟨_, rfl, by simp only [*]; done, _, rfl⟩
end Go.Proofs.Ytjeeflldbhajiaa
set_option linter.unusedSimpArgs false
set_option linter.unusedVariables false
set_option linter.unusedSectionVars false
namespace Go.Proofs.Ytjeeflldbhajiaa
open Go Go.RowKit
open Go.ChangeShapes Go.WideShapes Go.ChangeAt Go.RowKit Go.Joins
/-- The opposite, behind a guard. -/
theorem wpList_neg_g {P : Program} {w : World} {ops : Array Oper} {rest : List Oper} {o : Oper} {a : Act} {Q : Exit → Act → World → Prop} {t : TypeId} {X : Operand}
    (ho : o.op = .unOp .neg t X) {k : FloatKind} {x : Nat} (hx : a.eval X = .float k x) (hw : Region.wanted o (yielded ops a.tmps) = true)
    (h : ∀ r, (∀ cx, cn k x = cx → cn k r = fneg k cx) → wpList P ops Q rest (a.put o.dst (.float k r)) w) : wpList P ops Q (o :: rest) a w := by
  refine wpList_step fun K hK => ?_
  rw [if_pos hw]
  unfold Oper.wp
  simp only [execOp, ho, hx]
  simp [Op.unary, Result.andThen]
  exact hK _ _ (h _ (by rintro cx rfl; exact cn_neg k x))
/-- What stands in the law: a stuff in a variable, a bar in another. -/
def St5 (w0 w : World) (s : St) (b5 b6 : Nat) (v : Value) (X : List Nat) : Prop := (s.at w b5 0 ∧ b5 < w.heap.size) ∧ (BarAt s 1056964608 v w b6 0 ∧ b6 < w.heap.size) ∧ OF w0.heap.size w v X ∧ Below w0.heap.size w0 w
theorem St5.later {w0 w w' : World} {s : St} {b5 b6 : Nat} {v : Value} {X : List Nat} (h : St5 w0 w s b5 b6 v X) (hb : Below w.heap.size w w') : St5 w0 w' s b5 b6 v X :=
  ⟨⟨at_later h.1.1 hb h.1.2, Nat.lt_of_lt_of_le h.1.2 hb.size⟩, ⟨bar_later h.2.1.1 hb h.2.1.2, Nat.lt_of_lt_of_le h.2.1.2 hb.size⟩, h.2.2.1.later hb, h.2.2.2.trans (hb.mono h.2.2.2.size)⟩
theorem barAt_own {wr : World} {b : Nat} {s : St} {p : Nat} {u : Value} (h : owned wr b (barC s p u)) : BarAt s p u wr b 0 := by
  unfold BarAt
  simp only [Nat.zero_add]
  exact ⟨⟨(h 0 _ rfl).1, (h 1 _ rfl).1, (h 2 _ rfl).1, (h 3 _ rfl).1, (h 4 _ rfl).1, (h 5 _ rfl).1⟩, (h 6 _ rfl).1, (h 7 _ rfl).1⟩
/-- And a list of numbers. -/
def St6 (w0 w : World) (s : St) (b5 b6 : Nat) (v : Value) (X : List Nat) (u : Value) (L : List Nat) : Prop := St5 w0 w s b5 b6 v X ∧ OF w0.heap.size w u L
theorem St6.later {w0 w w' : World} {s : St} {b5 b6 : Nat} {v : Value} {X : List Nat} {u : Value} {L : List Nat} (h : St6 w0 w s b5 b6 v X u L) (hb : Below w.heap.size w w') : St6 w0 w' s b5 b6 v X u L := ⟨h.1.later hb, h.2.later hb⟩
/-- And another bar. -/
def St7 (w0 w : World) (s : St) (b5 b6 : Nat) (v : Value) (X : List Nat) (u : Value) (L : List Nat) (b10 : Nat) (v2 : Value) (X2 : List Nat) : Prop := St6 w0 w s b5 b6 v X u L ∧ (BarAt s 1056964608 v2 w b10 0 ∧ b10 < w.heap.size) ∧ OF w0.heap.size w v2 X2
theorem St7.later {w0 w w' : World} {s : St} {b5 b6 : Nat} {v : Value} {X : List Nat} {u : Value} {L : List Nat} {b10 : Nat} {v2 : Value} {X2 : List Nat} (h : St7 w0 w s b5 b6 v X u L b10 v2 X2) (hb : Below w.heap.size w w') : St7 w0 w' s b5 b6 v X u L b10 v2 X2 := ⟨h.1.later hb, ⟨bar_later h.2.1.1 hb h.2.1.2, Nat.lt_of_lt_of_le h.2.1.2 hb.size⟩, h.2.2.later hb⟩
/-- And fronts. -/
def St8 (w0 w : World) (s : St) (b5 b6 : Nat) (v : Value) (X : List Nat) (u : Value) (L : List Nat) (u2 : Value) (L2 : List Nat) : Prop := St6 w0 w s b5 b6 v X u L ∧ OF w0.heap.size w u2 L2
theorem St8.later {w0 w w' : World} {s : St} {b5 b6 : Nat} {v : Value} {X : List Nat} {u : Value} {L : List Nat} {u2 : Value} {L2 : List Nat} (h : St8 w0 w s b5 b6 v X u L u2 L2) (hb : Below w.heap.size w w') : St8 w0 w' s b5 b6 v X u L u2 L2 := ⟨h.1.later hb, h.2.later hb⟩
theorem l01Exp_any (x : Nat) (w : World) (h : exOk (wide (cn .f32 x))) (hf : fits (exV (wide (cn .f32 x))) = true) : Calls Try.prog 101 #[.float .f32 x] w (RF w .f32 (narrow (exV (wide (cn .f32 x))))) := by
  have HR : Hid (∀ r w, cn .f64 r = wide (cn .f32 x) → Calls Try.prog 119 #[.float .f64 r] w (RF w .f64 (exV (wide (cn .f32 x))))) := fun r w e => by
    have h2 := l01ExpWide_any r w (by rw [e]; exact h)
    rw [e] at h2
    exact h2
  clear h
  generalize exV (wide (cn .f32 x)) = E at *
  have HN : Hid (∀ r w, cn .f64 r = E → Calls Try.prog 118 #[.float .f64 r] w (RF w .f32 (narrow E))) := fun r w e => by
    have h2 := l01Narrow_any r w (by rw [e]; exact hf)
    rw [e] at h2
    exact h2
  clear hf
  go_enter Try.func101, Try.ntmps101
  go_wp2_with (first | (with_reducible refine at_list ?_; refine wpList_fop rfl rfl rfl rfl rfl ?_; intro r n hr0; have hr := hr0 _ _ (by first | with_reducible assumption | exact rfl) (by first | with_reducible assumption | exact rfl); clear hr0) | (with_reducible refine at_list ?_; refine wpList_neg rfl rfl rfl ?_; intro r hr0; have hr := hr0 _ (by first | with_reducible assumption | exact rfl); clear hr0) | (with_reducible refine at_list ?_; refine wpList_fop_g rfl rfl rfl rfl rfl ?_; intro r n hr0; have hr := hr0 _ _ (by first | with_reducible assumption | exact rfl) (by first | with_reducible assumption | exact rfl); clear hr0) | (with_reducible refine at_list ?_; refine wpList_wide_g rfl rfl Try.underlying22 Try.underlying40 rfl ?_; intro r n hr0; have hr := hr0 _ (by first | with_reducible assumption | exact rfl); clear hr0) | (with_reducible refine at_list ?_; refine wpList_wide rfl rfl rfl Try.underlying22 Try.underlying40 ?_; intro r n hr0; have hr := hr0 _ (by first | with_reducible assumption | exact rfl); clear hr0) | (go_at_call 119; refine ((HR.out _ _ (by assumption)) ).mono ?_; rintro e w' ⟨r, rfl, hr, n, rfl⟩) | (go_at_call 118; refine ((HN.out _ _ (by assumption)) ).mono ?_; rintro e w' ⟨r, rfl, hr, n, rfl⟩))
  go_ret
  exact ⟨_, rfl, by assumption, _, rfl⟩
theorem specExp_any (x : Nat) (w : World) (h : exOk (wide (cn .f32 x))) (hf : fits (exV (wide (cn .f32 x))) = true) : Calls Try.prog 53 #[.float .f32 x] w (RF w .f32 (narrow (exV (wide (cn .f32 x))))) := by
  have H := Lib.hid (fun w => l01Exp_any x w h hf)
  clear h hf
  generalize narrow (exV (wide (cn .f32 x))) = E at *
  go_enter Try.func53, Try.ntmps53
  go_wp2_with (first | (with_reducible refine at_list ?_; refine wpList_fop rfl rfl rfl rfl rfl ?_; intro r n hr0; have hr := hr0 _ _ (by first | with_reducible assumption | exact rfl) (by first | with_reducible assumption | exact rfl); clear hr0) | (with_reducible refine at_list ?_; refine wpList_neg rfl rfl rfl ?_; intro r hr0; have hr := hr0 _ (by first | with_reducible assumption | exact rfl); clear hr0) | (with_reducible refine at_list ?_; refine wpList_fop_g rfl rfl rfl rfl rfl ?_; intro r n hr0; have hr := hr0 _ _ (by first | with_reducible assumption | exact rfl) (by first | with_reducible assumption | exact rfl); clear hr0) | (with_reducible refine at_list ?_; refine wpList_wide_g rfl rfl Try.underlying22 Try.underlying40 rfl ?_; intro r n hr0; have hr := hr0 _ (by first | with_reducible assumption | exact rfl); clear hr0) | (with_reducible refine at_list ?_; refine wpList_wide rfl rfl rfl Try.underlying22 Try.underlying40 ?_; intro r n hr0; have hr := hr0 _ (by first | with_reducible assumption | exact rfl); clear hr0) | (go_at_call 101; refine ((H.out _) ).mono ?_; rintro e w' ⟨r, rfl, hr, n, rfl⟩))
  go_ret
  exact ⟨_, rfl, by assumption, _, rfl⟩
theorem exOk_of {x : Nat} (h0 : fnt .f32 x = true) (h1 : -200 ≤ fv .f32 x) (h2 : fv .f32 x ≤ 200) : exOk (wide x) := by
  obtain ⟨w0, w1⟩ := wide_val h0
  obtain ⟨⟨a0, a1⟩, b0, b1⟩ := hundred_val
  refine ⟨?_, ?_, ?_⟩
  · rw [feqv w0 w0]; exact decide_eq_true rfl
  · rw [fgtv w0 a0, w1, a1]; exact decide_eq_false (by grind)
  · rw [fltv w0 b0, w1, b1]; exact decide_eq_false (by grind)
def Clm.numG (lo hi : Int) : Clm := ⟨1, fun _ v => ∃ r, v = .int .i64 r ∧ (lo ≤ hi → lo ≤ r ∧ r ≤ hi), fun _ _ _ => True, fun _ => ⟨_, lo, rfl, fun h => ⟨Int.le_refl _, h⟩⟩, fun _ _ _ _ _ _ => trivial, fun h => nomatch h⟩
/-- A bar that is even, of some cells. -/
def evT (s : St) (q n : Nat) (q1 : Option Addr) (c1 : Nat) : Value := .tuple #[.agg #[.float .f32 s.a, .float .f32 s.b, .float .f32 s.c, .float .f32 s.d, .float .f32 s.p, .float .f32 s.l, .float .f32 q, .slice q1 n c1], .bool true]
def Clm.evn (B : Nat) (s : St) (q : Nat) : Clm := ⟨1, fun _ v => ∃ n q1 c1, (2 ≤ n ∧ n ≤ 7) ∧ v = evT s q n q1 c1, fun _ v w => ∀ n q1 c1, v = evT s q n q1 c1 → OF B w (.slice q1 n c1) (evenX s n s.p 0), fun _ => ⟨_, 2, none, 0, ⟨by decide, by decide⟩, rfl⟩, fun _ v w w' h hb n q1 c1 e => (h n q1 c1 e).later hb, fun h => nomatch h⟩
def evM (B : Nat) (s : St) (q : Nat) (x : List Value) (u : World) : Prop := ∀ b n q1 c1, x.head? = some (Value.pointer (some ⟨b, 0, none⟩)) → Value.agg #[.float .f32 s.a, .float .f32 s.b, .float .f32 s.c, .float .f32 s.d, .float .f32 s.p, .float .f32 s.l, .float .f32 q, .slice q1 n c1] ∈ x → (owned u b (barC s q (.slice q1 n c1)) ∧ B ≤ b) ∧ OF B u (.slice q1 n c1) (evenX s n s.p 0)
theorem evM_keeps (B : Nat) (s : St) (q : Nat) : Keeps (evM B s q) := fun x w w' h hb b n q1 c1 h1 h2 => ⟨⟨(h b n q1 c1 h1 h2).1.1.later hb, (h b n q1 c1 h1 h2).1.2⟩, (h b n q1 c1 h1 h2).2.later hb⟩
theorem bar_putV {B : Nat} {s : St} {p : Nat} {X : List Nat} {v : Value} {u : World} {b : Nat} (h1 : OF B u v X) (h2 : vtK B [.float .f32 0, .float .f32 0, .float .f32 0, .float .f32 0, .float .f32 0, .float .f32 0, .float .f32 0, .slice none 0 0] 32 (.pointer (some ⟨b, 0, none⟩)) u) : (owned (u.setCells b 0 (barC s p v)) b (barC s p v) ∧ B ≤ b) ∧ OF B (u.setCells b 0 (barC s p v)) v X := by
  obtain ⟨⟨g1, g2⟩, g3⟩ := h2 b rfl
  exact ⟨⟨barC_stored (s0 := St0) (p0 := 0) (u0 := .slice none 0 0) g2, g1⟩, h1.kept (grown_setCells b _ 0 u) (h1.type g3 (by decide))⟩
section
variable {ops : Array Oper} {Q : Exit → Act → World → Prop} {F I : World → Prop} {l : List Oper} {cs : List GC} {i : Nat} {ks : List (Nat × (World → Prop))} {a : Act} {o : Oper}
theorem wpG_callN {lo hi : Int} (hlh : lo ≤ hi) (hw : Region.wanted o (yielded ops a.tmps) = true) {f : FuncId} {args : Array Value} (he : ∀ w, (execOp a.eval o).run Try.prog w = .ok (.enter f args) w)
    (hc : ∀ w, I w → depK o ks w → Calls Try.prog f args w (RN w lo hi)) (h : ∀ r, lo ≤ r → r ≤ hi → wpG Try.prog ops Q F I l cs (i + 1) ((i, fun _ => True) :: ks) (a.put o.dst (.int .i64 r))) : wpG Try.prog ops Q F I (o :: l) (GC.of (Clm.numG lo hi) :: cs) i ks a := by
  refine wpG_one (Clm.numG lo hi) rfl hw (fun w hi hk => ?_) fun u hu => ?_
  · rw [he w]
    refine Calls.mono (hc w hi hk) ?_
    rintro e w' ⟨r, rfl, hr, n, rfl⟩
    exact ⟨_, rfl, below_draws _, ⟨r, rfl, fun _ => hr⟩, trivial⟩
  · obtain ⟨r, rfl, hr⟩ := hu
    exact h r (hr hlh).1 (hr hlh).2
theorem wpG_callEv {B : Nat} {s : St} {q : Nat} (hw : Region.wanted o (yielded ops a.tmps) = true) {f : FuncId} {args : Array Value} (he : ∀ w, (execOp a.eval o).run Try.prog w = .ok (.enter f args) w)
    (hB : ∀ w, I w → B ≤ w.heap.size) (hc : ∀ w, I w → depK o ks w → ∃ n : Nat, (2 ≤ n ∧ n ≤ 7) ∧ Calls Try.prog f args w (BBY w s q (evenX s n s.p 0) n))
    (h : ∀ n q1 c1, (2 ≤ n ∧ n ≤ 7) → wpG Try.prog ops Q F I l cs (i + 1) ((i, fun w => ∀ n' q' c', evT s q n q1 c1 = evT s q n' q' c' → OF B w (.slice q' n' c') (evenX s n' s.p 0)) :: ks) (a.put o.dst (evT s q n q1 c1))) : wpG Try.prog ops Q F I (o :: l) (GC.of (Clm.evn B s q) :: cs) i ks a := by
  refine wpG_one (Clm.evn B s q) rfl hw (fun w hi hk => ?_) fun u hu => ?_
  · rw [he w]
    obtain ⟨n, hn, hC⟩ := hc w hi hk
    refine Calls.mono hC ?_
    rintro e w' ⟨q1, c1, rfl, hbl, hO⟩
    refine ⟨_, rfl, hbl, ⟨n, q1, c1, hn, rfl⟩, fun n' q' c' e => ?_⟩
    have e2 : q1 = q' ∧ n = n' ∧ c1 = c' := by simpa [evT] using e
    obtain ⟨rfl, rfl, rfl⟩ := e2
    exact hO.base (hB w hi)
  · obtain ⟨n, q1, c1, hn, rfl⟩ := hu
    exact h n q1 c1 hn
end
theorem fr_even {s : St} {n : Int} {X : List Nat} {m : Nat} (h1 : evenOk s n 1056964608 s.p 0 = true) (hX : evenX s n s.p 0 = X) (hm : X.length = m) (w : World) : Calls Try.prog 39 #[.agg #[.float .f32 s.a, .float .f32 s.b, .float .f32 s.c, .float .f32 s.d, .float .f32 s.p, .float .f32 s.l], .int .i64 n, .float .f32 1056964608, .float .f32 s.p, .float .f32 0] w (BBY w s 1056964608 X m) := ba_even h1 hX hm w
theorem fr_fronts {s : St} {q : Nat} {xs L : List Nat} (h1 : frontsOk s q xs = true) (hL : frontsL s q xs (xs.length - 1) = L) (hf : ∀ y ∈ L, fnt .f32 y = true) (v : Value) (w : World) (hs : FS w v xs) : Calls Try.prog 30 #[.agg #[.float .f32 s.a, .float .f32 s.b, .float .f32 s.c, .float .f32 s.d, .float .f32 s.p, .float .f32 s.l, .float .f32 q, v]] w (fun e w' => ∃ q1 n1 c1, e = .returned (.tuple #[.slice q1 n1 c1, .bool true]) ∧ L.length = n1 ∧ Below w.heap.size w w' ∧ OF w.heap.size w' (.slice q1 n1 c1) L) := by
  have h := implFronts_any s q v xs w hs
  rw [frontsV_ok h1, h1, hL] at h
  refine h.mono ?_
  rintro e w' ⟨u, ys, rfl, hb, hO, hmm⟩
  have hf' : ∀ j, j < L.length → fnt .f32 (L.getD j 0) = true := fun j hj => by
    rw [List.getD_eq_getElem?_getD, List.getElem?_eq_getElem hj]
    exact hf _ (List.getElem_mem hj)
  have := map_raw hmm hf'
  subst this
  obtain ⟨q1, c1, rfl⟩ := OF.shape hO
  exact ⟨q1, _, c1, rfl, rfl, hb, hO⟩
theorem fr_front {s : St} {X T F x t : Nat} (h1 : frOk s x t = true) (hx : cn .f32 x = X) (ht : cn .f32 t = T) (hF : frV s.k X T = F) (hf : fnt .f32 F = true) (w : World) : Calls Try.prog 51 #[.agg #[.float .f32 s.a, .float .f32 s.b, .float .f32 s.c, .float .f32 s.d, .float .f32 s.p, .float .f32 s.l], .float .f32 x, .float .f32 t] w (BFB w .f32 F true) := by
  have h := implFrontAt_any s x t w
  obtain ⟨e1, e2⟩ := gBy h1 (show fnt .f32 (frV s.k (cn .f32 x) (cn .f32 t)) = true by rw [hx, ht, hF]; exact hf)
  rwa [e1, e2, hx, ht, hF] at h
theorem fr_root {x X R : Nat} (hx : cn .f32 x = X) (h1 : abv X = true) (hR : stF X = R) (w : World) : Calls Try.prog 52 #[.float .f32 x] w (BFB w .f32 R true) := by
  have h := implStefan_any x w
  rwa [hx, h1, hR] at h
theorem fr_exp {x X E : Nat} (hx : cn .f32 x = X) (h : exOk (wide X)) (hf : fits (exV (wide X)) = true) (hE : narrow (exV (wide X)) = E) (w : World) : Calls Try.prog 53 #[.float .f32 x] w (RF w .f32 E) := by
  have := specExp_any x w (by rw [hx]; exact h) (by rw [hx]; exact hf)
  rwa [hx, hE] at this
theorem fr_err {x X E : Nat} (hx : cn .f32 x = X) (h1 : fnt .f32 X = true) (hE : narrow (erV (wide X)) = E) (w : World) : Calls Try.prog 54 #[.float .f32 x] w (RFB w .f32 E true) := by
  have h := implErrorOf_any x w
  have f : fin .f32 X = true := by rw [fin_num]; exact h1
  have e : erF X = E := by unfold erF; rw [if_pos f]; exact hE
  rwa [hx, f, e] at h
theorem fr_all {s : St} {a b c d p l : Int} (h : SV s a b c d p l) {j : Int} (hj : 0 ≤ j ∧ j ≤ 7) :
    (∀ w x t, cn .f32 x = fop .add .f32 (cn .f32 s.p) (cn .f32 1073741824) → cn .f32 t = timeT j → Calls Try.prog 51 #[.agg #[.float .f32 s.a, .float .f32 s.b, .float .f32 s.c, .float .f32 s.d, .float .f32 s.p, .float .f32 s.l], .float .f32 x, .float .f32 t] w (BFB w .f32 (frV s.k (fop .add .f32 (cn .f32 s.p) (cn .f32 1073741824)) (timeT j)) true)) ∧
    (∀ w x t, cn .f32 x = fop .add .f32 (cn .f32 s.p) (cn .f32 1073741824) → cn .f32 t = fop .mul .f32 (cn .f32 1082130432) (timeT j) → Calls Try.prog 51 #[.agg #[.float .f32 s.a, .float .f32 s.b, .float .f32 s.c, .float .f32 s.d, .float .f32 s.p, .float .f32 s.l], .float .f32 x, .float .f32 t] w (BFB w .f32 (frV s.k (fop .add .f32 (cn .f32 s.p) (cn .f32 1073741824)) (fop .mul .f32 (cn .f32 1082130432) (timeT j))) true)) ∧
    (∀ w x t, cn .f32 x = fop .add .f32 (cn .f32 s.p) (cn .f32 1077936128) → cn .f32 t = timeT j → Calls Try.prog 51 #[.agg #[.float .f32 s.a, .float .f32 s.b, .float .f32 s.c, .float .f32 s.d, .float .f32 s.p, .float .f32 s.l], .float .f32 x, .float .f32 t] w (BFB w .f32 (frV s.k (fop .add .f32 (cn .f32 s.p) (cn .f32 1077936128)) (timeT j)) true)) ∧
    (∀ w x, cn .f32 x = fop .add .f32 (cn .f32 s.p) (cn .f32 1073741824) → Calls Try.prog 51 #[.agg #[.float .f32 s.a, .float .f32 s.b, .float .f32 s.c, .float .f32 s.d, .float .f32 s.p, .float .f32 s.l], .float .f32 x, .float .f32 0] w (BFB w .f32 (frV s.k (fop .add .f32 (cn .f32 s.p) (cn .f32 1073741824)) (cn .f32 0)) true)) := by
  obtain ⟨t1, t4⟩ := time_val hj
  obtain ⟨x2, x3⟩ := point_val h
  have A := fa_of h hj
  have q0 : (0 : Rat) ≤ ((1 + j : Int) : Rat) / 4 := by
    have : ((0 : Int) : Rat) ≤ ((1 + j : Int) : Rat) := icast_le (by omega)
    have z : ((0 : Int) : Rat) = 0 := rfl
    rw [z] at this; grind
  have q4 : (0 : Rat) ≤ ((4 * (1 + j) : Int) : Rat) / 4 := by
    have : ((0 : Int) : Rat) ≤ ((4 * (1 + j) : Int) : Rat) := icast_le (by omega)
    have z : ((0 : Int) : Rat) = 0 := rfl
    rw [z] at this; grind
  refine ⟨fun w x t hx ht => fr_front (front_ok h (z := 2) ⟨by decide, by decide⟩ (by rw [hx]; exact x2) (by rw [ht]; exact t1) q0) hx ht rfl A.fN w, fun w x t hx ht => fr_front (front_ok h (z := 2) ⟨by decide, by decide⟩ (by rw [hx]; exact x2) (by rw [ht]; exact t4) q4) hx ht rfl A.fF w, fun w x t hx ht => fr_front (front_ok h (z := 3) ⟨by decide, by decide⟩ (by rw [hx]; exact x3) (by rw [ht]; exact t1) q0) hx ht rfl A.fH w, fun w x hx => fr_front (front_ok h (z := 2) ⟨by decide, by decide⟩ (by rw [hx]; exact x2) (q := 0) V0 Rat.le_refl) hx rfl rfl A.f0 w⟩
theorem fr_rest {S R : Nat} (hR : stF S = R) (hS : abv S = true) (A : RT S R) :
    (∀ w x, cn .f32 x = S → Calls Try.prog 52 #[.float .f32 x] w (BFB w .f32 R true)) ∧
    (∀ w x, cn .f32 x = fop .mul .f32 R R → Calls Try.prog 53 #[.float .f32 x] w (RF w .f32 (sqW R))) ∧
    (∀ w x, cn .f32 x = R → Calls Try.prog 54 #[.float .f32 x] w (RFB w .f32 (cuW R) true)) ∧
    (∀ w x, cn .f32 x = fneg .f32 R → Calls Try.prog 54 #[.float .f32 x] w (RFB w .f32 (cuW (fneg .f32 R)) true)) :=
  ⟨fun w x hx => fr_root hx hS hR w, fun w x hx => fr_exp hx (exOk_of A.fQ (by have := A.bQ.1; grind) (by have := A.bQ.2; grind)) A.tS rfl w, fun w x hx => fr_err hx A.fR rfl w, fun w x hx => fr_err hx (fneg_val A.fR).1 rfl w⟩
end Go.Proofs.Ytjeeflldbhajiaa
set_option linter.unusedSimpArgs false
set_option linter.unusedVariables false
set_option linter.unusedSectionVars false
namespace Go.Proofs.Ytjeeflldbhajiaa
open Go Go.RowKit
open Go.ChangeShapes Go.WideShapes Go.ChangeAt Go.RowKit Go.Joins
set_option maxHeartbeats 16000000 in
set_option maxRecDepth 100000 in
theorem walk_FnFronts (pa : Option Addr) (na ca : Nat) (pb : Option Addr) (nb cb : Nat) (w : World) (hp : BY w.heap.size w pa na ca) (hq : BY w.heap.size w pb nb cb) : Calls Try.prog 14 #[.slice pa na ca, .slice pb nb cb] w (BV w (.bool true)) := by
  have HP := Lib.hid hp
  have HQ := Lib.hid hq
  clear hp hq
  by_cases hlong : 1048576 < na ∨ 1048576 < nb
  · have HL := Lib.hid (fun w => (show Calls Try.prog 45 #[.slice pa na ca, .slice pb nb cb] w (RB w true) from (show (decide (1048576 < na) || decide (1048576 < nb)) = true by simpa using hlong) ▸ b10Long_any pa pb na ca nb cb w))
    go_enter Try.func14, Try.ntmps14
    go_wp2_with (first | (with_reducible refine at_list ?_; refine wpList_fop rfl rfl rfl rfl rfl ?_; intro r n hr0; have hr := hr0 _ _ (by first | with_reducible assumption | exact rfl) (by first | with_reducible assumption | exact rfl); clear hr0) | (with_reducible refine at_list ?_; refine wpList_neg rfl rfl rfl ?_; intro r hr0; have hr := hr0 _ (by first | with_reducible assumption | exact rfl); clear hr0) | (with_reducible refine at_list ?_; refine wpList_fop_g rfl rfl rfl rfl rfl ?_; intro r n hr0; have hr := hr0 _ _ (by first | with_reducible assumption | exact rfl) (by first | with_reducible assumption | exact rfl); clear hr0) | (with_reducible refine at_list ?_; refine wpList_wide_g rfl rfl Try.underlying22 Try.underlying40 rfl ?_; intro r n hr0; have hr := hr0 _ (by first | with_reducible assumption | exact rfl); clear hr0) | (with_reducible refine at_list ?_; refine wpList_wide rfl rfl rfl Try.underlying22 Try.underlying40 ?_; intro r n hr0; have hr := hr0 _ (by first | with_reducible assumption | exact rfl); clear hr0) | (go_at_call 45; refine ((HL.out _) ).mono ?_; rintro e w' ⟨rfl, n, rfl⟩) | (go_at_call 23; refine (implMostTick_any _ _ _ _ _ (by assumption)).mono ?_; rintro e w' ⟨r, rfl, hr, hb⟩; obtain ⟨hT, hk⟩ := bv_next hb (by (repeat (with_reducible first | assumption | apply Trk.alloc | apply Trk.setCell | apply Trk.drewN | apply Trk.drew | exact Trk.nil _))); simp only [SameOn, World.size_alloc, World.size_setCell, World.size_drew, size_drewN', and_true] at hk; have hsz := Below.size hb; (try simp only [World.size_alloc, World.size_setCell, World.size_drew, size_drewN'] at hsz)) | (go_at_call 30; refine (implFronts_any _ _ _ _ _ (by assumption)).mono ?_; rintro e w' ⟨u, ys, rfl, hb, hO, hL⟩; obtain ⟨pu, cu, rfl⟩ := OF.shape hO; (try simp only [World.size_alloc, World.size_setCell, World.size_drew, World.drewN] at hO); obtain ⟨hT, hk⟩ := bv_next hb (by (repeat (with_reducible first | assumption | apply Trk.alloc | apply Trk.setCell | apply Trk.drewN | apply Trk.drew | exact Trk.nil _))); simp only [SameOn, World.size_alloc, World.size_setCell, World.size_drew, size_drewN', and_true] at hk; have hsz := Below.size hb; (try simp only [World.size_alloc, World.size_setCell, World.size_drew, size_drewN'] at hsz)))
    go_ret
    exact ⟨rfl, by (repeat (first | (with_reducible exact Below.refl _ _) | (with_reducible assumption) | (with_reducible refine below_then ?_ (by assumption)) | (with_reducible refine Below.trans ?_ (by assumption)) | (with_reducible refine below_drewN ?_ _) | (with_reducible apply Below.drew) | (with_reducible refine below_alloc ?_ _) | refine Below.setCell ?_ (by first | (simp; done) | (simp; omega)) _))⟩
  have HL := Lib.hid (fun w => (show Calls Try.prog 45 #[.slice pa na ca, .slice pb nb cb] w (RB w false) from (show (decide (1048576 < na) || decide (1048576 < nb)) = false by simp; omega) ▸ b10Long_any pa pb na ca nb cb w))
  have hn1 : na ≤ 1048576 := by omega
  have hk1 : nb ≤ 1048576 := by omega
  clear hlong
  go_enter Try.func14, Try.ntmps14
  go_wp2_with (first | (with_reducible refine at_list ?_; refine wpList_fop rfl rfl rfl rfl rfl ?_; intro r n hr0; have hr := hr0 _ _ (by first | with_reducible assumption | exact rfl) (by first | with_reducible assumption | exact rfl); clear hr0) | (with_reducible refine at_list ?_; refine wpList_neg rfl rfl rfl ?_; intro r hr0; have hr := hr0 _ (by first | with_reducible assumption | exact rfl); clear hr0) | (with_reducible refine at_list ?_; refine wpList_fop_g rfl rfl rfl rfl rfl ?_; intro r n hr0; have hr := hr0 _ _ (by first | with_reducible assumption | exact rfl) (by first | with_reducible assumption | exact rfl); clear hr0) | (with_reducible refine at_list ?_; refine wpList_wide_g rfl rfl Try.underlying22 Try.underlying40 rfl ?_; intro r n hr0; have hr := hr0 _ (by first | with_reducible assumption | exact rfl); clear hr0) | (with_reducible refine at_list ?_; refine wpList_wide rfl rfl rfl Try.underlying22 Try.underlying40 ?_; intro r n hr0; have hr := hr0 _ (by first | with_reducible assumption | exact rfl); clear hr0) | (go_at_call 50; refine stop_here ?_) | (go_at_call 45; refine ((HL.out _) ).mono ?_; rintro e w' ⟨rfl, n, rfl⟩) | (go_at_call 23; refine (implMostTick_any _ _ _ _ _ (by assumption)).mono ?_; rintro e w' ⟨r, rfl, hr, hb⟩; obtain ⟨hT, hk⟩ := bv_next hb (by (repeat (with_reducible first | assumption | apply Trk.alloc | apply Trk.setCell | apply Trk.drewN | apply Trk.drew | exact Trk.nil _))); simp only [SameOn, World.size_alloc, World.size_setCell, World.size_drew, size_drewN', and_true] at hk; have hsz := Below.size hb; (try simp only [World.size_alloc, World.size_setCell, World.size_drew, size_drewN'] at hsz)) | (go_at_call 30; refine (implFronts_any _ _ _ _ _ (by assumption)).mono ?_; rintro e w' ⟨u, ys, rfl, hb, hO, hL⟩; obtain ⟨pu, cu, rfl⟩ := OF.shape hO; (try simp only [World.size_alloc, World.size_setCell, World.size_drew, World.drewN] at hO); obtain ⟨hT, hk⟩ := bv_next hb (by (repeat (with_reducible first | assumption | apply Trk.alloc | apply Trk.setCell | apply Trk.drewN | apply Trk.drew | exact Trk.nil _))); simp only [SameOn, World.size_alloc, World.size_setCell, World.size_drew, size_drewN', and_true] at hk; have hsz := Below.size hb; (try simp only [World.size_alloc, World.size_setCell, World.size_drew, size_drewN'] at hsz)))
  unfold Stop
  refine calls_named ?_
  intro w0 hw0
  have HW0 : Hid (Below w.heap.size w w0) := by show Below _ _ _; rw [hw0]; (repeat (first | (with_reducible exact Below.refl _ _) | (with_reducible assumption) | (with_reducible refine below_then ?_ (by assumption)) | (with_reducible refine Below.trans ?_ (by assumption)) | (with_reducible refine below_drewN ?_ _) | (with_reducible apply Below.drew) | (with_reducible refine below_alloc ?_ _) | refine Below.setCell ?_ (by first | (simp; done) | (simp; omega)) _))
  clear hw0
  refine (B10Stuff_any _ _ _ _ ((HP.out.later (C := w.heap.size) HW0.out (Nat.le_refl _)).mono HW0.out.size) hn1).mono ?_
  rintro e w1 ⟨s, rfl, hd, hdl, hb⟩
  have HB1 : Hid (Below w.heap.size w w1) := HW0.out.trans (hb.mono HW0.out.size)
  obtain ⟨a0, b0, c0, d0, p0, l0, hsv⟩ := hd.sv
  have HSV := Lib.hid hsv
  have HFA := Lib.hid (fun j hj => fa_of hsv (j := j) hj)
  clear hd hdl hb HW0 HL hsv
  go_wp2_with (first | (with_reducible refine at_list ?_; refine wpList_fop rfl rfl rfl rfl rfl ?_; intro r n hr0; have hr := hr0 _ _ (by first | with_reducible assumption | exact rfl) (by first | with_reducible assumption | exact rfl); clear hr0) | (with_reducible refine at_list ?_; refine wpList_neg rfl rfl rfl ?_; intro r hr0; have hr := hr0 _ (by first | with_reducible assumption | exact rfl); clear hr0) | (with_reducible refine at_list ?_; refine wpList_fop_g rfl rfl rfl rfl rfl ?_; intro r n hr0; have hr := hr0 _ _ (by first | with_reducible assumption | exact rfl) (by first | with_reducible assumption | exact rfl); clear hr0) | (with_reducible refine at_list ?_; refine wpList_wide_g rfl rfl Try.underlying22 Try.underlying40 rfl ?_; intro r n hr0; have hr := hr0 _ (by first | with_reducible assumption | exact rfl); clear hr0) | (with_reducible refine at_list ?_; refine wpList_wide rfl rfl rfl Try.underlying22 Try.underlying40 ?_; intro r n hr0; have hr := hr0 _ (by first | with_reducible assumption | exact rfl); clear hr0) | (go_at_call 23; refine (implMostTick_any _ _ _ _ _ (by assumption)).mono ?_; rintro e w' ⟨r, rfl, hr, hb⟩; obtain ⟨hT, hk⟩ := bv_next hb (by (repeat (with_reducible first | assumption | apply Trk.alloc | apply Trk.setCell | apply Trk.drewN | apply Trk.drew | exact Trk.nil _))); simp only [SameOn, World.size_alloc, World.size_setCell, World.size_drew, size_drewN', and_true] at hk; have hsz := Below.size hb; (try simp only [World.size_alloc, World.size_setCell, World.size_drew, size_drewN'] at hsz)) | (go_at_call 30; refine (implFronts_any _ _ _ _ _ (by assumption)).mono ?_; rintro e w' ⟨u, ys, rfl, hb, hO, hL⟩; obtain ⟨pu, cu, rfl⟩ := OF.shape hO; (try simp only [World.size_alloc, World.size_setCell, World.size_drew, World.drewN] at hO); obtain ⟨hT, hk⟩ := bv_next hb (by (repeat (with_reducible first | assumption | apply Trk.alloc | apply Trk.setCell | apply Trk.drewN | apply Trk.drew | exact Trk.nil _))); simp only [SameOn, World.size_alloc, World.size_setCell, World.size_drew, size_drewN', and_true] at hk; have hsz := Below.size hb; (try simp only [World.size_alloc, World.size_setCell, World.size_drew, size_drewN'] at hsz)))
  refine wp_named ?_
  intro w2 hw2
  obtain ⟨b5, hb5⟩ : ∃ b5, b5 = w1.heap.size := ⟨_, rfl⟩
  rw [← hb5]
  have HS2 : Hid (s.at w2 b5 0 ∧ b5 < w2.heap.size) := by
    show St.at _ _ _ _ ∧ _
    rw [hw2, hb5]
    exact ⟨(by unfold St.at; refine ⟨?_, ?_, ?_, ?_, ?_, ?_⟩ <;> go_simp), by simp⟩
  have HW2 : Hid (Below w.heap.size w w2) := by show Below _ _ _; rw [hw2]; exact HB1.out.alloc (by have := HB1.out.size; omega) _
  clear hw2 hb5 HB1
  have HEV : Hid (∀ n : Nat, (2 ≤ n ∧ n ≤ 7) → ∀ w, Calls Try.prog 39 #[.agg #[.float .f32 s.a, .float .f32 s.b, .float .f32 s.c, .float .f32 s.d, .float .f32 s.p, .float .f32 s.l], .int .i64 (n : Int), .float .f32 1056964608, .float .f32 s.p, .float .f32 0] w (BBY w s 1056964608 (evenX s n s.p 0) n)) := fun n hn w =>
    have W := wa_of (t := mostV s 1056964608) (lw := fop .add .f32 (cn .f32 s.p) (cn .f32 1090519040)) HSV.out hn (cn_mostV _ _) (cn_fop _ _ _ _)
    fr_even W.ev rfl W.ln w
  obtain ⟨st0, st1, st2, st3, st4, st5⟩ := HS2.out.1
  have hT : Trk w2 [b5] := (Trk.nil w2).more HS2.out.2
  (apply wp_region_planG (F := (fun _ => True)) (fun u => Below w2.heap.size w2 u) (fun a c h hb => h.trans (hb.mono h.size)); (case hW => exact (by first | assumption | exact Below.refl _ _)); (case hF0 => exact (by (intro u h; trivial))); ((apply wpG_val; (case hw => exact rfl); (case h1 => (intro w' hb hk0; obtain ⟨hT, hk⟩ := bv_next hb (by (repeat (with_reducible first | assumption | apply Trk.alloc | apply Trk.setCell | apply Trk.drewN | apply Trk.drew | exact Trk.nil _))); simp only [SameOn, World.size_alloc, World.size_setCell, World.size_drew, size_drewN', and_true] at hk; have hsz := Below.size hb; (try simp only [World.size_alloc, World.size_setCell, World.size_drew, size_drewN'] at hsz); go_simp <;> exact rfl))); apply wpG_norm; (case ha => (simp only [Act.put, List.setIfInBounds_toArray, List.set_cons_zero, List.set_cons_succ]; exact rfl))); ((apply wpG_det; (case hw => exact rfl); (case hs => (intro cs b h; cases h)); (case h1 => (intro w'; go_simp <;> exact rfl))); apply wpG_norm; (case ha => (simp only [Act.put, List.setIfInBounds_toArray, List.set_cons_zero, List.set_cons_succ]; exact rfl))); ((apply wpG_callN (lo := 0) (hi := 6 - 1) (by decide); (case hw => exact rfl); (case he => (intro w'; go_simp; exact ⟨rfl, rfl⟩)); (case hc => (intro w' hi hk0; exact b10At_any _ _ _ 0 6 _ ((HQ.out.later (C := w.heap.size) (HW2.out.trans (hi.mono HW2.out.size)) (Nat.le_refl _)).mono (by have := hi.size; have := HW2.out.size; omega)) (by omega) (by omega))); intro j hj1 hj2; have e7 : IntKind.i64.wrap (2 + j) = 2 + j := i64_fit (by omega)); apply wpG_norm; (case ha => (simp only [Act.put, List.setIfInBounds_toArray, List.set_cons_zero, List.set_cons_succ]; exact rfl))); ((apply wpG_det; (case hw => exact rfl); (case hs => (intro cs b h; cases h)); (case h1 => (intro w'; go_simp <;> exact rfl))); apply wpG_norm; (case ha => (simp only [Act.put, List.setIfInBounds_toArray, List.set_cons_zero, List.set_cons_succ]; exact rfl))); ((apply wpG_det; (case hw => exact rfl); (case hs => (intro cs b h; cases h)); (case h1 => (intro w'; go_simp <;> exact rfl))); apply wpG_norm; (case ha => (simp only [Act.put, List.setIfInBounds_toArray, List.set_cons_zero, List.set_cons_succ]; exact rfl))); ((apply wpG_val; (case hw => exact rfl); (case h1 => (intro w' hb hk0; obtain ⟨hT, hk⟩ := bv_next hb (by (repeat (with_reducible first | assumption | apply Trk.alloc | apply Trk.setCell | apply Trk.drewN | apply Trk.drew | exact Trk.nil _))); simp only [SameOn, World.size_alloc, World.size_setCell, World.size_drew, size_drewN', and_true] at hk; have hsz := Below.size hb; (try simp only [World.size_alloc, World.size_setCell, World.size_drew, size_drewN'] at hsz); go_simp <;> exact rfl))); apply wpG_norm; (case ha => (simp only [Act.put, List.setIfInBounds_toArray, List.set_cons_zero, List.set_cons_succ]; exact rfl))); ((apply wpG_callEv (B := w2.heap.size) (s := s) (q := 1056964608); (case hw => exact rfl); (case he => (intro w'; go_simp; exact ⟨rfl, rfl⟩)); (case hB => (intro u h; exact h.size)); (case hc => (intro w' hi hk0; refine ⟨(2 + j).toNat, ⟨by omega, by omega⟩, ?_⟩; have h9 := HEV.out (2 + j).toNat ⟨by omega, by omega⟩ w'; rw [show (((2 + j).toNat : Nat) : Int) = 2 + j by omega] at h9; rw [show (2 + j : Int) = (((2 + j).toNat : Nat) : Int) by omega] at h9 ⊢; exact h9)); intro N q1 c1 hn27; unfold evT); apply wpG_norm; (case ha => (simp only [Act.put, List.setIfInBounds_toArray, List.set_cons_zero, List.set_cons_succ]; exact rfl))); ((apply wpG_det; (case hw => exact rfl); (case hs => (intro cs b h; cases h)); (case h1 => (intro w'; go_simp <;> exact rfl))); apply wpG_norm; (case ha => (simp only [Act.put, List.setIfInBounds_toArray, List.set_cons_zero, List.set_cons_succ]; exact rfl))); ((apply wpG_det; (case hw => exact rfl); (case hs => (intro cs b h; cases h)); (case h1 => (intro w'; go_simp <;> exact rfl))); apply wpG_norm; (case ha => (simp only [Act.put, List.setIfInBounds_toArray, List.set_cons_zero, List.set_cons_succ]; exact rfl))); ((apply wpG_det; (case hw => exact rfl); (case hs => (intro cs b h; cases h)); (case h1 => (intro w'; go_simp <;> exact rfl))); apply wpG_norm; (case ha => (simp only [Act.put, List.setIfInBounds_toArray, List.set_cons_zero, List.set_cons_succ]; exact rfl))); ((apply wpG_varT (B := w2.heap.size) (fun u h => h.size) [.float .f32 0, .float .f32 0, .float .f32 0, .float .f32 0, .float .f32 0, .float .f32 0, .float .f32 0, .slice none 0 0] 32; (case hw => exact rfl); (case h1 => (intro w'; go_simp <;> exact rfl)); intro b6); apply wpG_norm; (case ha => (simp only [Act.put, List.setIfInBounds_toArray, List.set_cons_zero, List.set_cons_succ]; exact rfl))); ((apply wpG_putD [.float .f32 0, .float .f32 0, .float .f32 0, .float .f32 0, .float .f32 0, .float .f32 0, .float .f32 0, .slice none 0 0] (evM w2.heap.size s 1056964608) (evM_keeps _ _ _) (fun u => Below w2.heap.size w2 u) (fun a c h hb => h.trans (hb.mono h.size)) (b := b6) (vs := #[.float .f32 s.a, .float .f32 s.b, .float .f32 s.c, .float .f32 s.d, .float .f32 s.p, .float .f32 s.l, .float .f32 1056964608, .slice q1 N c1]) (x0 := [.pointer (some ⟨b6, 0, none⟩), .agg #[.float .f32 s.a, .float .f32 s.b, .float .f32 s.c, .float .f32 s.d, .float .f32 s.p, .float .f32 s.l, .float .f32 1056964608, .slice q1 N c1], .agg #[.float .f32 s.a, .float .f32 s.b, .float .f32 s.c, .float .f32 s.d, .float .f32 s.p, .float .f32 s.l], .slice pb nb cb, .int .i64 j, .int .i64 (2 + j), .pointer (some ⟨b5, 4, none⟩), .float .f32 s.p, .tuple #[.agg #[.float .f32 s.a, .float .f32 s.b, .float .f32 s.c, .float .f32 s.d, .float .f32 s.p, .float .f32 s.l, .float .f32 1056964608, .slice q1 N c1], .bool true], .tuple #[.agg #[.float .f32 s.a, .float .f32 s.b, .float .f32 s.c, .float .f32 s.d, .float .f32 s.p, .float .f32 s.l, .float .f32 1056964608, .slice q1 N c1], .bool true], .agg #[.float .f32 s.a, .float .f32 s.b, .float .f32 s.c, .float .f32 s.d, .float .f32 s.p, .float .f32 s.l, .float .f32 1056964608, .slice q1 N c1], .pointer (some ⟨b6, 0, none⟩)]); (case hox => exact rfl); (case ho => exact rfl); (case hx => exact rfl); (case hy => exact rfl); (case hn => exact rfl); (case hi => kernel_rfl); (case h2 => exact rfl); (case hw => exact rfl); (case hk => (intro w' hi hd; have hv : vtK w2.heap.size [.float .f32 0, .float .f32 0, .float .f32 0, .float .f32 0, .float .f32 0, .float .f32 0, .float .f32 0, .slice none 0 0] 32 (.pointer (some ⟨b6, 0, none⟩)) w' := (by first | exact (show vtK _ _ _ _ _ from hd.1) | exact (show vtK _ _ _ _ _ from hd.2.1) | exact (show vtK _ _ _ _ _ from hd.2.2.1) | exact (show vtK _ _ _ _ _ from hd.2.2.2.1) | exact (show vtK _ _ _ _ _ from hd.2.2.2.2.1) | exact (show vtK _ _ _ _ _ from hd.2.2.2.2.2.1)); exact (hv _ rfl).1.2)); (case hI' => (intro w' hi hd; have hv : vtK w2.heap.size [.float .f32 0, .float .f32 0, .float .f32 0, .float .f32 0, .float .f32 0, .float .f32 0, .float .f32 0, .slice none 0 0] 32 (.pointer (some ⟨b6, 0, none⟩)) w' := (by first | exact (show vtK _ _ _ _ _ from hd.1) | exact (show vtK _ _ _ _ _ from hd.2.1) | exact (show vtK _ _ _ _ _ from hd.2.2.1) | exact (show vtK _ _ _ _ _ from hd.2.2.2.1) | exact (show vtK _ _ _ _ _ from hd.2.2.2.2.1) | exact (show vtK _ _ _ _ _ from hd.2.2.2.2.2.1)); have hl : OF w2.heap.size w' (.slice q1 N c1) (evenX s N s.p 0) := (by first | exact (show ∀ n' q' c', evT s 1056964608 N q1 c1 = evT s 1056964608 n' q' c' → OF _ _ _ _ from hd.1) N q1 c1 rfl | exact (show ∀ n' q' c', evT s 1056964608 N q1 c1 = evT s 1056964608 n' q' c' → OF _ _ _ _ from hd.2.1) N q1 c1 rfl | exact (show ∀ n' q' c', evT s 1056964608 N q1 c1 = evT s 1056964608 n' q' c' → OF _ _ _ _ from hd.2.2.1) N q1 c1 rfl | exact (show ∀ n' q' c', evT s 1056964608 N q1 c1 = evT s 1056964608 n' q' c' → OF _ _ _ _ from hd.2.2.2.1) N q1 c1 rfl | exact (show ∀ n' q' c', evT s 1056964608 N q1 c1 = evT s 1056964608 n' q' c' → OF _ _ _ _ from hd.2.2.2.2.1) N q1 c1 rfl | exact (show ∀ n' q' c', evT s 1056964608 N q1 c1 = evT s 1056964608 n' q' c' → OF _ _ _ _ from hd.2.2.2.2.2.1) N q1 c1 rfl | exact (show ∀ n' q' c', evT s 1056964608 N q1 c1 = evT s 1056964608 n' q' c' → OF _ _ _ _ from hd.2.2.2.2.2.2.1) N q1 c1 rfl | exact (show ∀ n' q' c', evT s 1056964608 N q1 c1 = evT s 1056964608 n' q' c' → OF _ _ _ _ from hd.2.2.2.2.2.2.2.1) N q1 c1 rfl); exact ⟨hi.grown (grown_setCells _ _ _ _) hi.size (fun kk hkk => by cases hkk; exact (hv _ rfl).1.1), fun b' n' q' c' h1' h2' => by (have e1 : b' = b6 := by simpa [eq_comm] using h1'); (have e2 : q' = q1 ∧ n' = N ∧ c' = c1 := by simpa using h2'); rw [e1, e2.1, e2.2.1, e2.2.2]; exact bar_putV hl hv⟩))); apply wpG_norm; (case ha => (simp only [Act.put, List.setIfInBounds_toArray, List.set_cons_zero, List.set_cons_succ]; exact rfl))); ((apply wpG_det; (case hw => exact rfl); (case hs => (intro cs b h; cases h)); (case h1 => (intro w'; go_simp <;> exact rfl))); apply wpG_norm; (case ha => (simp only [Act.put, List.setIfInBounds_toArray, List.set_cons_zero, List.set_cons_succ]; exact rfl))); refine wpG_nil ?_; intro w' hi hkk)
  rotate_left
  case hFs => repeat' (first | exact trivial | (intro u hu; trivial) | constructor)
  all_goals (try (first | kernel_rfl | rfl))
  have hq := hkk.1 b6 N q1 c1 rfl (by simp)
  rename World => w3
  have HK3 : Hid (St5 w w3 s b5 b6 (.slice q1 N c1) (evenX s N s.p 0)) := ⟨⟨at_later HS2.out.1 hi HS2.out.2, Nat.lt_of_lt_of_le HS2.out.2 hi.size⟩, ⟨barAt_own hq.1.1, World.block_lt_of_cell? _ _ (hq.1.1 0 _ rfl).1⟩, hq.2.base HW2.out.size, HW2.out.trans (hi.mono HW2.out.size)⟩
  have HWA : Hid (∀ t lw, cn .f32 t = mostV s 1056964608 → cn .f32 lw = fop .add .f32 (cn .f32 s.p) (cn .f32 1090519040) → WA s N t lw) := fun t lw h1 h2 => wa_of HSV.out hn27 h1 h2
  have HW0 := Lib.hid (HWA.out (mostV s 1056964608) (fop .add .f32 (cn .f32 s.p) (cn .f32 1090519040)) (cn_mostV _ _) (cn_fop _ _ _ _))
  clear hq hkk hi hT st0 st1 st2 st3 st4 st5 e7 hj1 hj2 HEV HS2 HW2
  obtain ⟨X, hX⟩ : ∃ X, evenX s N s.p 0 = X := ⟨_, rfl⟩
  rw [hX] at HK3
  have HX := Lib.hid hX
  clear hX
  obtain ⟨⟨d0, d1, d2, d3, d4, d5⟩, d6, d7⟩ := HK3.out.2.1.1
  simp only [Nat.zero_add] at d0 d1 d2 d3 d4 d5 d6 d7
  have hlt6 := HK3.out.2.1.2
  go_wp2_with (first | (with_reducible refine at_list ?_; refine wpList_fop rfl rfl rfl rfl rfl ?_; intro r n hr0; have hr := hr0 _ _ (by first | with_reducible assumption | exact rfl) (by first | with_reducible assumption | exact rfl); clear hr0) | (with_reducible refine at_list ?_; refine wpList_neg rfl rfl rfl ?_; intro r hr0; have hr := hr0 _ (by first | with_reducible assumption | exact rfl); clear hr0) | (with_reducible refine at_list ?_; refine wpList_fop_g rfl rfl rfl rfl rfl ?_; intro r n hr0; have hr := hr0 _ _ (by first | with_reducible assumption | exact rfl) (by first | with_reducible assumption | exact rfl); clear hr0) | (with_reducible refine at_list ?_; refine wpList_wide_g rfl rfl Try.underlying22 Try.underlying40 rfl ?_; intro r n hr0; have hr := hr0 _ (by first | with_reducible assumption | exact rfl); clear hr0) | (with_reducible refine at_list ?_; refine wpList_wide rfl rfl rfl Try.underlying22 Try.underlying40 ?_; intro r n hr0; have hr := hr0 _ (by first | with_reducible assumption | exact rfl); clear hr0) | (go_at_call 23; refine stop_here ?_) | (go_at_call 23; refine (implMostTick_any _ _ _ _ _ (by assumption)).mono ?_; rintro e w' ⟨r, rfl, hr, hb⟩; obtain ⟨hT, hk⟩ := bv_next hb (by (repeat (with_reducible first | assumption | apply Trk.alloc | apply Trk.setCell | apply Trk.drewN | apply Trk.drew | exact Trk.nil _))); simp only [SameOn, World.size_alloc, World.size_setCell, World.size_drew, size_drewN', and_true] at hk; have hsz := Below.size hb; (try simp only [World.size_alloc, World.size_setCell, World.size_drew, size_drewN'] at hsz)) | (go_at_call 30; refine (implFronts_any _ _ _ _ _ (by assumption)).mono ?_; rintro e w' ⟨u, ys, rfl, hb, hO, hL⟩; obtain ⟨pu, cu, rfl⟩ := OF.shape hO; (try simp only [World.size_alloc, World.size_setCell, World.size_drew, World.drewN] at hO); obtain ⟨hT, hk⟩ := bv_next hb (by (repeat (with_reducible first | assumption | apply Trk.alloc | apply Trk.setCell | apply Trk.drewN | apply Trk.drew | exact Trk.nil _))); simp only [SameOn, World.size_alloc, World.size_setCell, World.size_drew, size_drewN', and_true] at hk; have hsz := Below.size hb; (try simp only [World.size_alloc, World.size_setCell, World.size_drew, size_drewN'] at hsz)))
  unfold Stop
  clear d0 d1 d2 d3 d4 d5 d6 d7 hlt6
  refine calls_named ?_
  intro w4 hw4
  have HK4 : Hid (St5 w w4 s b5 b6 (.slice q1 N c1) X) := HK3.out.later (by rw [hw4]; first | exact Below.refl _ _ | exact below_drewN (Below.refl _ _) _)
  clear hw4 HK3
  refine (ba_most (xs := X) (by have := HW0.out.bok; rwa [HX.out] at this) HW0.out.mf _ _ HK4.out.2.2.1.fs).mono ?_
  rintro e w5 ⟨x8, rfl, h8, hb5⟩
  have HK5 : Hid (St5 w w5 s b5 b6 (.slice q1 N c1) X) := HK4.out.later hb5
  have H8 := Lib.hid h8
  clear hb5 HK4 h8
  obtain ⟨⟨d0, d1, d2, d3, d4, d5⟩, d6, d7⟩ := HK5.out.2.1.1
  obtain ⟨st0, st1, st2, st3, st4, st5⟩ := HK5.out.1.1
  simp only [Nat.zero_add] at d0 d1 d2 d3 d4 d5 d6 d7 st0 st1 st2 st3 st4 st5
  go_wp2_with (first | (with_reducible refine at_list ?_; refine wpList_fop rfl rfl rfl rfl rfl ?_; intro r n hr0; have hr := hr0 _ _ (by first | with_reducible assumption | exact rfl) (by first | with_reducible assumption | exact rfl); clear hr0) | (with_reducible refine at_list ?_; refine wpList_neg rfl rfl rfl ?_; intro r hr0; have hr := hr0 _ (by first | with_reducible assumption | exact rfl); clear hr0) | (with_reducible refine at_list ?_; refine wpList_fop_g rfl rfl rfl rfl rfl ?_; intro r n hr0; have hr := hr0 _ _ (by first | with_reducible assumption | exact rfl) (by first | with_reducible assumption | exact rfl); clear hr0) | (with_reducible refine at_list ?_; refine wpList_wide_g rfl rfl Try.underlying22 Try.underlying40 rfl ?_; intro r n hr0; have hr := hr0 _ (by first | with_reducible assumption | exact rfl); clear hr0) | (with_reducible refine at_list ?_; refine wpList_wide rfl rfl rfl Try.underlying22 Try.underlying40 ?_; intro r n hr0; have hr := hr0 _ (by first | with_reducible assumption | exact rfl); clear hr0) | (go_at_call 44; refine stop_here ?_) | (go_at_call 23; refine (implMostTick_any _ _ _ _ _ (by assumption)).mono ?_; rintro e w' ⟨r, rfl, hr, hb⟩; obtain ⟨hT, hk⟩ := bv_next hb (by (repeat (with_reducible first | assumption | apply Trk.alloc | apply Trk.setCell | apply Trk.drewN | apply Trk.drew | exact Trk.nil _))); simp only [SameOn, World.size_alloc, World.size_setCell, World.size_drew, size_drewN', and_true] at hk; have hsz := Below.size hb; (try simp only [World.size_alloc, World.size_setCell, World.size_drew, size_drewN'] at hsz)) | (go_at_call 30; refine (implFronts_any _ _ _ _ _ (by assumption)).mono ?_; rintro e w' ⟨u, ys, rfl, hb, hO, hL⟩; obtain ⟨pu, cu, rfl⟩ := OF.shape hO; (try simp only [World.size_alloc, World.size_setCell, World.size_drew, World.drewN] at hO); obtain ⟨hT, hk⟩ := bv_next hb (by (repeat (with_reducible first | assumption | apply Trk.alloc | apply Trk.setCell | apply Trk.drewN | apply Trk.drew | exact Trk.nil _))); simp only [SameOn, World.size_alloc, World.size_setCell, World.size_drew, size_drewN', and_true] at hk; have hsz := Below.size hb; (try simp only [World.size_alloc, World.size_setCell, World.size_drew, size_drewN'] at hsz)))
  unfold Stop
  clear d0 d1 d2 d3 d4 d5 d6 d7 st0 st1 st2 st3 st4 st5
  obtain ⟨x9, rfl⟩ : ∃ x, x = r := ⟨r, rfl⟩
  have HWW := Lib.hid (HWA.out x8 x9 H8.out (by assumption))
  clear HWA
  refine calls_named ?_
  intro w6 hw6
  have HK6 : Hid (St5 w w6 s b5 b6 (.slice q1 N c1) X) := HK5.out.later (by rw [hw6]; exact below_drewN (Below.refl _ _) _)
  clear hw6 HK5
  obtain ⟨X2, hX2⟩ : ∃ X2, brX s 1056964608 x9 0 true false x8 X 20 = X2 := ⟨_, rfl⟩
  obtain ⟨L, hL⟩ : ∃ L, brL s 1056964608 x9 0 true false x8 X 20 = L := ⟨_, rfl⟩
  obtain ⟨_, _, _, _, wrun, wlen, wmel, wpos, wup, wfr, wff⟩ := HWW.out
  rw [HX.out] at wrun wlen wmel wpos wup wfr wff
  rw [hX2] at wlen wfr wff
  have hLl : L.length = 20 := by rw [← hL]; simp [brL]
  have hLk : ∀ k, k < 20 → L.getD k 0 = brH s 1056964608 x9 0 true false x8 X (k + 1) := fun k hk => by
    rw [← hL, brL, List.getD_eq_getElem?_getD, List.getElem?_map, List.getElem?_range hk]; rfl
  have hLf : ∀ j, j < L.length → fnt .f32 (L.getD j 0) = true := fun j hj => by
    rw [hLk j (by omega)]; exact wmel (j + 1) (by omega)
  have HPOS : Hid (fle .f32 (cn .f32 (L.getD 19 0)) (cn .f32 0) = false) := by
    show _ = _
    rw [fnt_cn (hLf 19 (by omega)), hLk 19 (by omega)]; exact wpos
  have HUP : Hid (∀ k, k + 1 < 20 → flt .f64 (wide (cn .f32 (L.getD (k + 1) 0))) (fop .sub .f64 (wide (cn .f32 (L.getD k 0))) (cn .f64 4562254508917369340)) = false) := fun k hk => by
    rw [fnt_cn (hLf (k + 1) (by omega)), fnt_cn (hLf k (by omega)), hLk (k + 1) (by omega), hLk k (by omega)]; exact wup (k + 1) (by omega)
  refine (ba_run (n := 20) wrun hX2 hL wlen hLl hLf _ _ HK6.out.2.2.1.fs).mono ?_
  rintro e w7 ⟨q2, c2, q3, c3, rfl, hb7, hO7, hY7⟩
  have hO3 : OF w6.heap.size w7 (.slice q3 20 c3) L := hY7.resolve_right (fun e => by rw [e] at hLl; simp at hLl)
  have hz6 : w.heap.size ≤ w6.heap.size := HK6.out.2.2.2.size
  have HK7 : Hid (St6 w w7 s b5 b6 (.slice q1 N c1) X (.slice q3 20 c3) L) := ⟨HK6.out.later hb7, hO3.base hz6⟩
  have HX27 : Hid (OF w.heap.size w7 (.slice q2 N c2) X2) := hO7.base hz6
  have HLL := Lib.hid hLl
  have HFR := Lib.hid wfr
  have HXL := Lib.hid wlen
  have HFF := Lib.hid wff
  clear hb7 hO7 hY7 hO3 hz6 HK6 hX2 hL wrun wlen wmel wpos wup wfr wff hLl hLk hLf HWW H8
  (repeat (clear hr))
  go_wp2_with (first | (with_reducible refine at_list ?_; refine wpList_fop rfl rfl rfl rfl rfl ?_; intro r n hr0; have hr := hr0 _ _ (by first | with_reducible assumption | exact rfl) (by first | with_reducible assumption | exact rfl); clear hr0) | (with_reducible refine at_list ?_; refine wpList_neg rfl rfl rfl ?_; intro r hr0; have hr := hr0 _ (by first | with_reducible assumption | exact rfl); clear hr0) | (with_reducible refine at_list ?_; refine wpList_fop_g rfl rfl rfl rfl rfl ?_; intro r n hr0; have hr := hr0 _ _ (by first | with_reducible assumption | exact rfl) (by first | with_reducible assumption | exact rfl); clear hr0) | (with_reducible refine at_list ?_; refine wpList_wide_g rfl rfl Try.underlying22 Try.underlying40 rfl ?_; intro r n hr0; have hr := hr0 _ (by first | with_reducible assumption | exact rfl); clear hr0) | (with_reducible refine at_list ?_; refine wpList_wide rfl rfl rfl Try.underlying22 Try.underlying40 ?_; intro r n hr0; have hr := hr0 _ (by first | with_reducible assumption | exact rfl); clear hr0) | (go_at_call 30; refine stop_here ?_) | (go_at_call 23; refine (implMostTick_any _ _ _ _ _ (by assumption)).mono ?_; rintro e w' ⟨r, rfl, hr, hb⟩; obtain ⟨hT, hk⟩ := bv_next hb (by (repeat (with_reducible first | assumption | apply Trk.alloc | apply Trk.setCell | apply Trk.drewN | apply Trk.drew | exact Trk.nil _))); simp only [SameOn, World.size_alloc, World.size_setCell, World.size_drew, size_drewN', and_true] at hk; have hsz := Below.size hb; (try simp only [World.size_alloc, World.size_setCell, World.size_drew, size_drewN'] at hsz)) | (go_at_call 30; refine (implFronts_any _ _ _ _ _ (by assumption)).mono ?_; rintro e w' ⟨u, ys, rfl, hb, hO, hL⟩; obtain ⟨pu, cu, rfl⟩ := OF.shape hO; (try simp only [World.size_alloc, World.size_setCell, World.size_drew, World.drewN] at hO); obtain ⟨hT, hk⟩ := bv_next hb (by (repeat (with_reducible first | assumption | apply Trk.alloc | apply Trk.setCell | apply Trk.drewN | apply Trk.drew | exact Trk.nil _))); simp only [SameOn, World.size_alloc, World.size_setCell, World.size_drew, size_drewN', and_true] at hk; have hsz := Below.size hb; (try simp only [World.size_alloc, World.size_setCell, World.size_drew, size_drewN'] at hsz)))
  unfold Stop
  refine calls_named ?_
  intro w8 hw8
  obtain ⟨b10, hb10⟩ : ∃ b10, b10 = w7.heap.size := ⟨_, rfl⟩
  rw [← hb10]
  have hb78 : Below w7.heap.size w7 w8 := by rw [hw8]; exact (Below.refl _ _).alloc (Nat.le_refl _) _
  have HK8 : Hid (St6 w w8 s b5 b6 (.slice q1 N c1) X (.slice q3 20 c3) L) := HK7.out.later hb78
  have HX28 : Hid (OF w.heap.size w8 (.slice q2 N c2) X2) := HX27.out.later hb78
  clear hw8 hb10 hb78 HK7 HX27
  obtain ⟨FL, hFL⟩ : ∃ FL, frontsL s 1056964608 X2 (N - 1) = FL := ⟨_, rfl⟩
  have hF2 := HFF.out
  rw [hFL] at hF2
  refine (fr_fronts (L := FL) HFR.out (by rw [HXL.out]; exact hFL) (fun y hy => (hF2 y hy).1) _ _ HX28.out.fs).mono ?_
  rintro e w9 ⟨q4, m4, c4, rfl, hm4, hb9, hO9⟩
  have hz8 : w.heap.size ≤ w8.heap.size := HK8.out.1.2.2.2.size
  have HK9 : Hid (St8 w w9 s b5 b6 (.slice q1 N c1) X (.slice q3 20 c3) L (.slice q4 m4 c4) FL) := ⟨HK8.out.later hb9, hO9.base hz8⟩
  have HM4 := Lib.hid hm4
  have HF2 := Lib.hid hF2
  clear hm4 hF2 hFL HFF hb9 hO9 hz8 HK8 HX28 HFR HXL
  obtain ⟨b3, o3, rfl, hc3⟩ := of_view HK9.out.1.2 HLL.out (by decide)
  have HC3 := Lib.hid hc3
  have h19 := hc3 19 (by decide)
  have f19 := HPOS.out
  clear hc3
  generalize L.getD 19 0 = y19 at h19 f19
  go_wp2_with (first | (with_reducible refine at_list ?_; refine wpList_fop rfl rfl rfl rfl rfl ?_; intro r n hr0; have hr := hr0 _ _ (by first | with_reducible assumption | exact rfl) (by first | with_reducible assumption | exact rfl); clear hr0) | (with_reducible refine at_list ?_; refine wpList_neg rfl rfl rfl ?_; intro r hr0; have hr := hr0 _ (by first | with_reducible assumption | exact rfl); clear hr0) | (with_reducible refine at_list ?_; refine wpList_fop_g rfl rfl rfl rfl rfl ?_; intro r n hr0; have hr := hr0 _ _ (by first | with_reducible assumption | exact rfl) (by first | with_reducible assumption | exact rfl); clear hr0) | (with_reducible refine at_list ?_; refine wpList_wide_g rfl rfl Try.underlying22 Try.underlying40 rfl ?_; intro r n hr0; have hr := hr0 _ (by first | with_reducible assumption | exact rfl); clear hr0) | (with_reducible refine at_list ?_; refine wpList_wide rfl rfl rfl Try.underlying22 Try.underlying40 ?_; intro r n hr0; have hr := hr0 _ (by first | with_reducible assumption | exact rfl); clear hr0) | (go_at_call 23; refine (implMostTick_any _ _ _ _ _ (by assumption)).mono ?_; rintro e w' ⟨r, rfl, hr, hb⟩; obtain ⟨hT, hk⟩ := bv_next hb (by (repeat (with_reducible first | assumption | apply Trk.alloc | apply Trk.setCell | apply Trk.drewN | apply Trk.drew | exact Trk.nil _))); simp only [SameOn, World.size_alloc, World.size_setCell, World.size_drew, size_drewN', and_true] at hk; have hsz := Below.size hb; (try simp only [World.size_alloc, World.size_setCell, World.size_drew, size_drewN'] at hsz)) | (go_at_call 30; refine (implFronts_any _ _ _ _ _ (by assumption)).mono ?_; rintro e w' ⟨u, ys, rfl, hb, hO, hL⟩; obtain ⟨pu, cu, rfl⟩ := OF.shape hO; (try simp only [World.size_alloc, World.size_setCell, World.size_drew, World.drewN] at hO); obtain ⟨hT, hk⟩ := bv_next hb (by (repeat (with_reducible first | assumption | apply Trk.alloc | apply Trk.setCell | apply Trk.drewN | apply Trk.drew | exact Trk.nil _))); simp only [SameOn, World.size_alloc, World.size_setCell, World.size_drew, size_drewN', and_true] at hk; have hsz := Below.size hb; (try simp only [World.size_alloc, World.size_setCell, World.size_drew, size_drewN'] at hsz)))
  refine wp_named ?_
  intro wl hwl
  have hbl : Below w9.heap.size w9 wl := by rw [hwl]; (repeat (first | (with_reducible exact Below.refl _ _) | (with_reducible assumption) | (with_reducible refine below_then ?_ (by assumption)) | (with_reducible refine Below.trans ?_ (by assumption)) | (with_reducible refine below_drewN ?_ _) | (with_reducible apply Below.drew) | (with_reducible refine below_alloc ?_ _) | refine Below.setCell ?_ (by first | (simp; done) | (simp; omega)) _))
  have HKl : Hid (St8 w wl s b5 b6 (.slice q1 N c1) X (.slice (some ⟨b3, o3, none⟩) 20 c3) L (.slice q4 m4 c4) FL) := HK9.out.later hbl
  have HCl : Hid (∀ j, j < 20 → wl.cell? ⟨b3, o3 + j, none⟩ = some (.float .f32 (L.getD j 0))) := fun j hj => cell_later hbl (HC3.out j hj)
  clear hwl hbl HK9 HC3 h19 f19 HPOS
  go_loopw [15] (fun t wr => ∃ (i : Nat), i ≤ 19 ∧ t = .int .i64 ((i : Int) + 1) ∧ Hid (Below wl.heap.size wl wr)) (fun t _ => 20 - (intOf t).toNat)
  case atStart => exact ⟨0, by omega, rfl, Below.refl _ _⟩
  case round =>
    obtain ⟨i, hi5, rfl, HW⟩ := hrel
    have hbW := HW.out
    by_cases hi : i < 19
    · have hlti : (i : Int) + 1 < 20 := by omega
      have c1' : wr.cell? ⟨b3, o3 + (i + 1), none⟩ = some (.float .f32 (L.getD (i + 1) 0)) := cell_later hbW (HCl.out (i + 1) (by omega))
      have c2' : wr.cell? ⟨b3, o3 + i, none⟩ = some (.float .f32 (L.getD i 0)) := cell_later hbW (HCl.out i (by omega))
      have f1 := HUP.out i (by omega)
      generalize L.getD (i + 1) 0 = ya at c1' f1
      generalize L.getD i 0 = yb at c2' f1
      have hi1 : IntKind.i64.wrap (i : Int) = (i : Int) := IntWalk.i64_in _ (by omega)
      have hi2 : ((i : Int) + 1).toNat = i + 1 := by omega
      have hi3 : 0 ≤ (i : Int) + 1 := by omega
      have hi4 : (i : Int) < 20 := by omega
      have hT : Trk wr [b3] := (Trk.nil wr).more (World.block_lt_of_cell? _ _ c1')
      go_wp2_with (first | (with_reducible refine at_list ?_; refine wpList_fop rfl rfl rfl rfl rfl ?_; intro r n hr0; have hr := hr0 _ _ (by first | with_reducible assumption | exact rfl) (by first | with_reducible assumption | exact rfl); clear hr0) | (with_reducible refine at_list ?_; refine wpList_neg rfl rfl rfl ?_; intro r hr0; have hr := hr0 _ (by first | with_reducible assumption | exact rfl); clear hr0) | (with_reducible refine at_list ?_; refine wpList_fop_g rfl rfl rfl rfl rfl ?_; intro r n hr0; have hr := hr0 _ _ (by first | with_reducible assumption | exact rfl) (by first | with_reducible assumption | exact rfl); clear hr0) | (with_reducible refine at_list ?_; refine wpList_wide_g rfl rfl Try.underlying22 Try.underlying40 rfl ?_; intro r n hr0; have hr := hr0 _ (by first | with_reducible assumption | exact rfl); clear hr0) | (with_reducible refine at_list ?_; refine wpList_wide rfl rfl rfl Try.underlying22 Try.underlying40 ?_; intro r n hr0; have hr := hr0 _ (by first | with_reducible assumption | exact rfl); clear hr0) | (go_at_call 23; refine (implMostTick_any _ _ _ _ _ (by assumption)).mono ?_; rintro e w' ⟨r, rfl, hr, hb⟩; obtain ⟨hT, hk⟩ := bv_next hb (by (repeat (with_reducible first | assumption | apply Trk.alloc | apply Trk.setCell | apply Trk.drewN | apply Trk.drew | exact Trk.nil _))); simp only [SameOn, World.size_alloc, World.size_setCell, World.size_drew, size_drewN', and_true] at hk; have hsz := Below.size hb; (try simp only [World.size_alloc, World.size_setCell, World.size_drew, size_drewN'] at hsz)) | (go_at_call 30; refine (implFronts_any _ _ _ _ _ (by assumption)).mono ?_; rintro e w' ⟨u, ys, rfl, hb, hO, hL⟩; obtain ⟨pu, cu, rfl⟩ := OF.shape hO; (try simp only [World.size_alloc, World.size_setCell, World.size_drew, World.drewN] at hO); obtain ⟨hT, hk⟩ := bv_next hb (by (repeat (with_reducible first | assumption | apply Trk.alloc | apply Trk.setCell | apply Trk.drewN | apply Trk.drew | exact Trk.nil _))); simp only [SameOn, World.size_alloc, World.size_setCell, World.size_drew, size_drewN', and_true] at hk; have hsz := Below.size hb; (try simp only [World.size_alloc, World.size_setCell, World.size_drew, size_drewN'] at hsz)))
      (apply wp_region_plan; ((apply wpC_det; (case hw => exact rfl); (case hs => (intro cs b h; cases h)); (case h1 => (intro w'; go_simp <;> exact rfl))); apply wpC_norm; (case ha => (simp only [Act.put, List.setIfInBounds_toArray, List.set_cons_zero, List.set_cons_succ]; exact rfl))); ((apply wpC_det; (case hw => exact rfl); (case hs => (intro cs b h; cases h)); (case h1 => (intro w'; go_simp <;> exact rfl))); apply wpC_norm; (case ha => (simp only [Act.put, List.setIfInBounds_toArray, List.set_cons_zero, List.set_cons_succ]; exact rfl))); ((apply wpC_det; (case hw => exact rfl); (case hs => (intro cs b h; cases h)); (case h1 => (intro w'; go_simp <;> exact rfl))); apply wpC_norm; (case ha => (simp only [Act.put, List.setIfInBounds_toArray, List.set_cons_zero, List.set_cons_succ]; exact rfl))); ((apply wpC_val; (case hw => exact rfl); (case h1 => (intro w' hb hk0; obtain ⟨hT, hk⟩ := bv_next hb (by (repeat (with_reducible first | assumption | apply Trk.alloc | apply Trk.setCell | apply Trk.drewN | apply Trk.drew | exact Trk.nil _))); simp only [SameOn, World.size_alloc, World.size_setCell, World.size_drew, size_drewN', and_true] at hk; have hsz := Below.size hb; (try simp only [World.size_alloc, World.size_setCell, World.size_drew, size_drewN'] at hsz); go_simp <;> exact rfl))); apply wpC_norm; (case ha => (simp only [Act.put, List.setIfInBounds_toArray, List.set_cons_zero, List.set_cons_succ]; exact rfl))); ((apply wpC_wide rfl rfl Try.underlying22 Try.underlying40 rfl; intro r hr0; have hr := hr0 _ (by first | with_reducible assumption | exact rfl); clear hr0); apply wpC_norm; (case ha => (simp only [Act.put, List.setIfInBounds_toArray, List.set_cons_zero, List.set_cons_succ]; exact rfl))); ((apply wpC_det; (case hw => exact rfl); (case hs => (intro cs b h; cases h)); (case h1 => (intro w'; go_simp <;> exact rfl))); apply wpC_norm; (case ha => (simp only [Act.put, List.setIfInBounds_toArray, List.set_cons_zero, List.set_cons_succ]; exact rfl))); ((apply wpC_det; (case hw => exact rfl); (case hs => (intro cs b h; cases h)); (case h1 => (intro w'; go_simp <;> exact rfl))); apply wpC_norm; (case ha => (simp only [Act.put, List.setIfInBounds_toArray, List.set_cons_zero, List.set_cons_succ]; exact rfl))); ((apply wpC_det; (case hw => exact rfl); (case hs => (intro cs b h; cases h)); (case h1 => (intro w'; go_simp <;> exact rfl))); apply wpC_norm; (case ha => (simp only [Act.put, List.setIfInBounds_toArray, List.set_cons_zero, List.set_cons_succ]; exact rfl))); ((apply wpC_det; (case hw => exact rfl); (case hs => (intro cs b h; cases h)); (case h1 => (intro w'; go_simp <;> exact rfl))); apply wpC_norm; (case ha => (simp only [Act.put, List.setIfInBounds_toArray, List.set_cons_zero, List.set_cons_succ]; exact rfl))); ((apply wpC_val; (case hw => exact rfl); (case h1 => (intro w' hb hk0; obtain ⟨hT, hk⟩ := bv_next hb (by (repeat (with_reducible first | assumption | apply Trk.alloc | apply Trk.setCell | apply Trk.drewN | apply Trk.drew | exact Trk.nil _))); simp only [SameOn, World.size_alloc, World.size_setCell, World.size_drew, size_drewN', and_true] at hk; have hsz := Below.size hb; (try simp only [World.size_alloc, World.size_setCell, World.size_drew, size_drewN'] at hsz); go_simp <;> exact rfl))); apply wpC_norm; (case ha => (simp only [Act.put, List.setIfInBounds_toArray, List.set_cons_zero, List.set_cons_succ]; exact rfl))); ((apply wpC_wide rfl rfl Try.underlying22 Try.underlying40 rfl; intro r hr0; have hr := hr0 _ (by first | with_reducible assumption | exact rfl); clear hr0); apply wpC_norm; (case ha => (simp only [Act.put, List.setIfInBounds_toArray, List.set_cons_zero, List.set_cons_succ]; exact rfl))); ((apply wpC_fop rfl rfl rfl rfl rfl; intro r hr0; have hr := hr0 _ _ (by first | with_reducible assumption | exact rfl) (by first | with_reducible assumption | exact rfl); clear hr0); apply wpC_norm; (case ha => (simp only [Act.put, List.setIfInBounds_toArray, List.set_cons_zero, List.set_cons_succ]; exact rfl))); ((apply wpC_det; (case hw => exact rfl); (case hs => (intro cs b h; cases h)); (case h1 => (intro w'; go_simp <;> exact rfl))); apply wpC_norm; (case ha => (simp only [Act.put, List.setIfInBounds_toArray, List.set_cons_zero, List.set_cons_succ]; exact rfl))); refine wpC_nil ?_; intro w' hb hkk; obtain ⟨hT, hk⟩ := bv_next hb (by (repeat (with_reducible first | assumption | apply Trk.alloc | apply Trk.setCell | apply Trk.drewN | apply Trk.drew | exact Trk.nil _))); simp only [SameOn, World.size_alloc, World.size_setCell, World.size_drew, size_drewN', and_true] at hk; have hsz := Below.size hb; (try simp only [World.size_alloc, World.size_setCell, World.size_drew, size_drewN'] at hsz))
      rotate_left
      all_goals (try (first | kernel_rfl | rfl))
      go_wp2_with (first | (with_reducible refine at_list ?_; refine wpList_fop rfl rfl rfl rfl rfl ?_; intro r n hr0; have hr := hr0 _ _ (by first | with_reducible assumption | exact rfl) (by first | with_reducible assumption | exact rfl); clear hr0) | (with_reducible refine at_list ?_; refine wpList_neg rfl rfl rfl ?_; intro r hr0; have hr := hr0 _ (by first | with_reducible assumption | exact rfl); clear hr0) | (with_reducible refine at_list ?_; refine wpList_fop_g rfl rfl rfl rfl rfl ?_; intro r n hr0; have hr := hr0 _ _ (by first | with_reducible assumption | exact rfl) (by first | with_reducible assumption | exact rfl); clear hr0) | (with_reducible refine at_list ?_; refine wpList_wide_g rfl rfl Try.underlying22 Try.underlying40 rfl ?_; intro r n hr0; have hr := hr0 _ (by first | with_reducible assumption | exact rfl); clear hr0) | (with_reducible refine at_list ?_; refine wpList_wide rfl rfl rfl Try.underlying22 Try.underlying40 ?_; intro r n hr0; have hr := hr0 _ (by first | with_reducible assumption | exact rfl); clear hr0) | (go_at_call 23; refine (implMostTick_any _ _ _ _ _ (by assumption)).mono ?_; rintro e w' ⟨r, rfl, hr, hb⟩; obtain ⟨hT, hk⟩ := bv_next hb (by (repeat (with_reducible first | assumption | apply Trk.alloc | apply Trk.setCell | apply Trk.drewN | apply Trk.drew | exact Trk.nil _))); simp only [SameOn, World.size_alloc, World.size_setCell, World.size_drew, size_drewN', and_true] at hk; have hsz := Below.size hb; (try simp only [World.size_alloc, World.size_setCell, World.size_drew, size_drewN'] at hsz)) | (go_at_call 30; refine (implFronts_any _ _ _ _ _ (by assumption)).mono ?_; rintro e w' ⟨u, ys, rfl, hb, hO, hL⟩; obtain ⟨pu, cu, rfl⟩ := OF.shape hO; (try simp only [World.size_alloc, World.size_setCell, World.size_drew, World.drewN] at hO); obtain ⟨hT, hk⟩ := bv_next hb (by (repeat (with_reducible first | assumption | apply Trk.alloc | apply Trk.setCell | apply Trk.drewN | apply Trk.drew | exact Trk.nil _))); simp only [SameOn, World.size_alloc, World.size_setCell, World.size_drew, size_drewN', and_true] at hk; have hsz := Below.size hb; (try simp only [World.size_alloc, World.size_setCell, World.size_drew, size_drewN'] at hsz)))
      go_roundw
      case rel => exact ⟨i + 1, by omega, by go_num, by show Below _ _ _; exact below_then hbW (by (repeat (first | (with_reducible exact Below.refl _ _) | (with_reducible assumption) | (with_reducible refine below_then ?_ (by assumption)) | (with_reducible refine Below.trans ?_ (by assumption)) | (with_reducible refine below_drewN ?_ _) | (with_reducible apply Below.drew) | (with_reducible refine below_alloc ?_ _) | refine Below.setCell ?_ (by first | (simp; done) | (simp; omega)) _)))⟩
      case measure => simp [intOf]; omega
    · have hi5e : i = 19 := by omega
      subst hi5e
      have HKr : Hid (St8 w wr s b5 b6 (.slice q1 N c1) X (.slice (some ⟨b3, o3, none⟩) 20 c3) L (.slice q4 m4 c4) FL) := HKl.out.later hbW
      clear HKl HCl HUP HW hbW
      obtain ⟨⟨d0, d1, d2, d3, d4, d5⟩, d6, d7⟩ := HKr.out.1.1.2.1.1
      simp only [Nat.zero_add] at d7
      go_wp2_with (first | (with_reducible refine at_list ?_; refine wpList_fop rfl rfl rfl rfl rfl ?_; intro r n hr0; have hr := hr0 _ _ (by first | with_reducible assumption | exact rfl) (by first | with_reducible assumption | exact rfl); clear hr0) | (with_reducible refine at_list ?_; refine wpList_neg rfl rfl rfl ?_; intro r hr0; have hr := hr0 _ (by first | with_reducible assumption | exact rfl); clear hr0) | (with_reducible refine at_list ?_; refine wpList_fop_g rfl rfl rfl rfl rfl ?_; intro r n hr0; have hr := hr0 _ _ (by first | with_reducible assumption | exact rfl) (by first | with_reducible assumption | exact rfl); clear hr0) | (with_reducible refine at_list ?_; refine wpList_wide_g rfl rfl Try.underlying22 Try.underlying40 rfl ?_; intro r n hr0; have hr := hr0 _ (by first | with_reducible assumption | exact rfl); clear hr0) | (with_reducible refine at_list ?_; refine wpList_wide rfl rfl rfl Try.underlying22 Try.underlying40 ?_; intro r n hr0; have hr := hr0 _ (by first | with_reducible assumption | exact rfl); clear hr0) | (go_at_call 23; refine (implMostTick_any _ _ _ _ _ (by assumption)).mono ?_; rintro e w' ⟨r, rfl, hr, hb⟩; obtain ⟨hT, hk⟩ := bv_next hb (by (repeat (with_reducible first | assumption | apply Trk.alloc | apply Trk.setCell | apply Trk.drewN | apply Trk.drew | exact Trk.nil _))); simp only [SameOn, World.size_alloc, World.size_setCell, World.size_drew, size_drewN', and_true] at hk; have hsz := Below.size hb; (try simp only [World.size_alloc, World.size_setCell, World.size_drew, size_drewN'] at hsz)) | (go_at_call 30; refine (implFronts_any _ _ _ _ _ (by assumption)).mono ?_; rintro e w' ⟨u, ys, rfl, hb, hO, hL⟩; obtain ⟨pu, cu, rfl⟩ := OF.shape hO; (try simp only [World.size_alloc, World.size_setCell, World.size_drew, World.drewN] at hO); obtain ⟨hT, hk⟩ := bv_next hb (by (repeat (with_reducible first | assumption | apply Trk.alloc | apply Trk.setCell | apply Trk.drewN | apply Trk.drew | exact Trk.nil _))); simp only [SameOn, World.size_alloc, World.size_setCell, World.size_drew, size_drewN', and_true] at hk; have hsz := Below.size hb; (try simp only [World.size_alloc, World.size_setCell, World.size_drew, size_drewN'] at hsz)))
      obtain ⟨x16, rfl⟩ : ∃ x, x = r := ⟨r, rfl⟩
      have h16 : cn .f64 x16 = fop .mul .f64 (cn .f64 4602678819172646912) (cn .f64 (floatOfInt .f64 (N : Int))) := by first | exact hr | (simpa using hr)
      clear hr d0 d1 d2 d3 d4 d5 d6 d7
      have HFQ : Hid (∀ k, k < m4 → flt .f32 (cn .f32 (FL.getD k 0)) (cn .f32 0) = false ∧ fgt .f64 (wide (cn .f32 (FL.getD k 0))) (cn .f64 x16) = false) := fun k hk => by
        have hm : k < FL.length := by rw [HM4.out]; exact hk
        have hy : FL.getD k 0 ∈ FL := by rw [List.getD_eq_getElem?_getD, List.getElem?_eq_getElem hm]; exact List.getElem_mem hm
        obtain ⟨e0, e1, e2⟩ := HF2.out _ hy
        rw [fnt_cn e0, h16]
        exact ⟨e1, e2⟩
      clear h16 HF2
      refine wp_named ?_
      intro wf hwf
      have hbf : Below wr.heap.size wr wf := by rw [hwf]; first | exact Below.refl _ _ | exact below_drewN (Below.refl _ _) _
      have HKf : Hid (St8 w wf s b5 b6 (.slice q1 N c1) X (.slice (some ⟨b3, o3, none⟩) 20 c3) L (.slice q4 m4 c4) FL) := HKr.out.later hbf
      clear hwf hbf HKr
      have hm4 : m4 ≤ 9223372036854775807 := by
        obtain ⟨p', c', e', g1, g2, _⟩ := FS_view HKf.out.2.fs
        simp only [Value.slice.injEq] at e'
        have h9 := HM4.out
        omega
      go_loopw [121, 17] (fun t _ wv => ∃ (i : Nat), i ≤ m4 ∧ t = .int .i64 (i : Int) ∧ Hid (Below wf.heap.size wf wv)) (fun t _ _ => m4 - (intOf t).toNat)
      case atStart => exact ⟨0, by omega, rfl, Below.refl _ _⟩
      case round =>
        rename World => wv
        obtain ⟨i, him, rfl, HW⟩ := hrel
        have hbW := HW.out
        by_cases hi : i < m4
        · have hlti : (i : Int) < (m4 : Int) := by omega
          obtain ⟨b4, o4, rfl, hc4⟩ := of_view (HKf.out.2.later hbW) HM4.out (by omega)
          have c4' := hc4 i hi
          obtain ⟨f1, f2⟩ := HFQ.out i hi
          clear hc4
          generalize FL.getD i 0 = ya at c4' f1 f2
          have hT : Trk wv [b4] := (Trk.nil wv).more (World.block_lt_of_cell? _ _ c4')
          go_wp2_with (first | (with_reducible refine at_list ?_; refine wpList_fop rfl rfl rfl rfl rfl ?_; intro r n hr0; have hr := hr0 _ _ (by first | with_reducible assumption | exact rfl) (by first | with_reducible assumption | exact rfl); clear hr0) | (with_reducible refine at_list ?_; refine wpList_neg rfl rfl rfl ?_; intro r hr0; have hr := hr0 _ (by first | with_reducible assumption | exact rfl); clear hr0) | (with_reducible refine at_list ?_; refine wpList_fop_g rfl rfl rfl rfl rfl ?_; intro r n hr0; have hr := hr0 _ _ (by first | with_reducible assumption | exact rfl) (by first | with_reducible assumption | exact rfl); clear hr0) | (with_reducible refine at_list ?_; refine wpList_wide_g rfl rfl Try.underlying22 Try.underlying40 rfl ?_; intro r n hr0; have hr := hr0 _ (by first | with_reducible assumption | exact rfl); clear hr0) | (with_reducible refine at_list ?_; refine wpList_wide rfl rfl rfl Try.underlying22 Try.underlying40 ?_; intro r n hr0; have hr := hr0 _ (by first | with_reducible assumption | exact rfl); clear hr0) | (go_at_call 23; refine (implMostTick_any _ _ _ _ _ (by assumption)).mono ?_; rintro e w' ⟨r, rfl, hr, hb⟩; obtain ⟨hT, hk⟩ := bv_next hb (by (repeat (with_reducible first | assumption | apply Trk.alloc | apply Trk.setCell | apply Trk.drewN | apply Trk.drew | exact Trk.nil _))); simp only [SameOn, World.size_alloc, World.size_setCell, World.size_drew, size_drewN', and_true] at hk; have hsz := Below.size hb; (try simp only [World.size_alloc, World.size_setCell, World.size_drew, size_drewN'] at hsz)) | (go_at_call 30; refine (implFronts_any _ _ _ _ _ (by assumption)).mono ?_; rintro e w' ⟨u, ys, rfl, hb, hO, hL⟩; obtain ⟨pu, cu, rfl⟩ := OF.shape hO; (try simp only [World.size_alloc, World.size_setCell, World.size_drew, World.drewN] at hO); obtain ⟨hT, hk⟩ := bv_next hb (by (repeat (with_reducible first | assumption | apply Trk.alloc | apply Trk.setCell | apply Trk.drewN | apply Trk.drew | exact Trk.nil _))); simp only [SameOn, World.size_alloc, World.size_setCell, World.size_drew, size_drewN', and_true] at hk; have hsz := Below.size hb; (try simp only [World.size_alloc, World.size_setCell, World.size_drew, size_drewN'] at hsz)))
          go_roundw
          case rel => exact ⟨i + 1, by omega, by go_num, by show Below _ _ _; exact below_then hbW (by (repeat (first | (with_reducible exact Below.refl _ _) | (with_reducible assumption) | (with_reducible refine below_then ?_ (by assumption)) | (with_reducible refine Below.trans ?_ (by assumption)) | (with_reducible refine below_drewN ?_ _) | (with_reducible apply Below.drew) | (with_reducible refine below_alloc ?_ _) | refine Below.setCell ?_ (by first | (simp; done) | (simp; omega)) _)))⟩
          case measure => simp [intOf]; omega
        · have hie : m4 = i := by omega
          subst hie
          have HKv : Hid (St8 w wv s b5 b6 (.slice q1 N c1) X (.slice (some ⟨b3, o3, none⟩) 20 c3) L (.slice q4 m4 c4) FL) := HKf.out.later hbW
          clear HKf HFQ HW hbW
          have hbw := HKv.out.1.1.2.2.2
          go_wp2_with (first | (with_reducible refine at_list ?_; refine wpList_fop rfl rfl rfl rfl rfl ?_; intro r n hr0; have hr := hr0 _ _ (by first | with_reducible assumption | exact rfl) (by first | with_reducible assumption | exact rfl); clear hr0) | (with_reducible refine at_list ?_; refine wpList_neg rfl rfl rfl ?_; intro r hr0; have hr := hr0 _ (by first | with_reducible assumption | exact rfl); clear hr0) | (with_reducible refine at_list ?_; refine wpList_fop_g rfl rfl rfl rfl rfl ?_; intro r n hr0; have hr := hr0 _ _ (by first | with_reducible assumption | exact rfl) (by first | with_reducible assumption | exact rfl); clear hr0) | (with_reducible refine at_list ?_; refine wpList_wide_g rfl rfl Try.underlying22 Try.underlying40 rfl ?_; intro r n hr0; have hr := hr0 _ (by first | with_reducible assumption | exact rfl); clear hr0) | (with_reducible refine at_list ?_; refine wpList_wide rfl rfl rfl Try.underlying22 Try.underlying40 ?_; intro r n hr0; have hr := hr0 _ (by first | with_reducible assumption | exact rfl); clear hr0) | (go_at_call 47; refine stop_here ?_) | (go_at_call 23; refine (implMostTick_any _ _ _ _ _ (by assumption)).mono ?_; rintro e w' ⟨r, rfl, hr, hb⟩; obtain ⟨hT, hk⟩ := bv_next hb (by (repeat (with_reducible first | assumption | apply Trk.alloc | apply Trk.setCell | apply Trk.drewN | apply Trk.drew | exact Trk.nil _))); simp only [SameOn, World.size_alloc, World.size_setCell, World.size_drew, size_drewN', and_true] at hk; have hsz := Below.size hb; (try simp only [World.size_alloc, World.size_setCell, World.size_drew, size_drewN'] at hsz)) | (go_at_call 30; refine (implFronts_any _ _ _ _ _ (by assumption)).mono ?_; rintro e w' ⟨u, ys, rfl, hb, hO, hL⟩; obtain ⟨pu, cu, rfl⟩ := OF.shape hO; (try simp only [World.size_alloc, World.size_setCell, World.size_drew, World.drewN] at hO); obtain ⟨hT, hk⟩ := bv_next hb (by (repeat (with_reducible first | assumption | apply Trk.alloc | apply Trk.setCell | apply Trk.drewN | apply Trk.drew | exact Trk.nil _))); simp only [SameOn, World.size_alloc, World.size_setCell, World.size_drew, size_drewN', and_true] at hk; have hsz := Below.size hb; (try simp only [World.size_alloc, World.size_setCell, World.size_drew, size_drewN'] at hsz)))
          unfold Stop
          refine (b10At_any _ _ _ 1 8 _ ((HQ.out.later (C := w.heap.size) hbw (Nat.le_refl _)).mono hbw.size) (by omega) (by omega)).mono ?_
          rintro e w' ⟨j, rfl, ⟨hj1, hj2⟩, nq, rfl⟩
          go_upto_region 23 with (first | (with_reducible refine at_list ?_; refine wpList_fop rfl rfl rfl rfl rfl ?_; intro r n hr0; have hr := hr0 _ _ (by first | with_reducible assumption | exact rfl) (by first | with_reducible assumption | exact rfl); clear hr0) | (with_reducible refine at_list ?_; refine wpList_neg rfl rfl rfl ?_; intro r hr0; have hr := hr0 _ (by first | with_reducible assumption | exact rfl); clear hr0) | (with_reducible refine at_list ?_; refine wpList_fop_g rfl rfl rfl rfl rfl ?_; intro r n hr0; have hr := hr0 _ _ (by first | with_reducible assumption | exact rfl) (by first | with_reducible assumption | exact rfl); clear hr0) | (with_reducible refine at_list ?_; refine wpList_wide_g rfl rfl Try.underlying22 Try.underlying40 rfl ?_; intro r n hr0; have hr := hr0 _ (by first | with_reducible assumption | exact rfl); clear hr0) | (with_reducible refine at_list ?_; refine wpList_wide rfl rfl rfl Try.underlying22 Try.underlying40 ?_; intro r n hr0; have hr := hr0 _ (by first | with_reducible assumption | exact rfl); clear hr0) | (go_at_call 23; refine (implMostTick_any _ _ _ _ _ (by assumption)).mono ?_; rintro e w' ⟨r, rfl, hr, hb⟩; obtain ⟨hT, hk⟩ := bv_next hb (by (repeat (with_reducible first | assumption | apply Trk.alloc | apply Trk.setCell | apply Trk.drewN | apply Trk.drew | exact Trk.nil _))); simp only [SameOn, World.size_alloc, World.size_setCell, World.size_drew, size_drewN', and_true] at hk; have hsz := Below.size hb; (try simp only [World.size_alloc, World.size_setCell, World.size_drew, size_drewN'] at hsz)) | (go_at_call 30; refine (implFronts_any _ _ _ _ _ (by assumption)).mono ?_; rintro e w' ⟨u, ys, rfl, hb, hO, hL⟩; obtain ⟨pu, cu, rfl⟩ := OF.shape hO; (try simp only [World.size_alloc, World.size_setCell, World.size_drew, World.drewN] at hO); obtain ⟨hT, hk⟩ := bv_next hb (by (repeat (with_reducible first | assumption | apply Trk.alloc | apply Trk.setCell | apply Trk.drewN | apply Trk.drew | exact Trk.nil _))); simp only [SameOn, World.size_alloc, World.size_setCell, World.size_drew, size_drewN', and_true] at hk; have hsz := Below.size hb; (try simp only [World.size_alloc, World.size_setCell, World.size_drew, size_drewN'] at hsz)))
          obtain ⟨xt, rfl⟩ : ∃ x, x = r := ⟨r, rfl⟩
          have ht : cn .f32 xt = timeT j := hr
          clear hr
          obtain ⟨hN, hF, hH, hZ⟩ := fr_all HSV.out (j := j) ⟨hj1, by omega⟩
          have hA := HFA.out j ⟨hj1, by omega⟩
          generalize timeT j = T at ht hN hF hH hA
          have fN := hA.fN
          have fF := hA.fF
          have fH := hA.fH
          have f0 := hA.f0
          have g1 := hA.z
          have g2 := hA.twice
          have g3 := hA.hot
          clear hA HFA
          generalize frV s.k (fop .add .f32 (cn .f32 s.p) (cn .f32 1073741824)) T = FN at hN fN g2 g3
          generalize frV s.k (fop .add .f32 (cn .f32 s.p) (cn .f32 1073741824)) (fop .mul .f32 (cn .f32 1082130432) T) = FF at hF fF g2
          generalize frV s.k (fop .add .f32 (cn .f32 s.p) (cn .f32 1077936128)) T = FH at hH fH g3
          generalize frV s.k (fop .add .f32 (cn .f32 s.p) (cn .f32 1073741824)) (cn .f32 0) = FZ at hZ f0 g1
          have HN := Lib.hid hN
          have HF := Lib.hid hF
          have HH := Lib.hid hH
          have HZ := Lib.hid hZ
          have G1 := Lib.hid (And.intro g1 (And.intro g2 g3))
          clear hN hF hH hZ g1 g2 g3
          obtain ⟨st0, st1, st2, st3, st4, st5⟩ := HKv.out.1.1.1.1
          simp only [Nat.zero_add] at st0 st1 st2 st3 st4 st5
          have hT : Trk wv [b5] := (Trk.nil wv).more HKv.out.1.1.1.2
          go_upto_region 27 with (first | (with_reducible refine at_list ?_; refine wpList_fop rfl rfl rfl rfl rfl ?_; intro r n hr0; have hr := hr0 _ _ (by first | with_reducible assumption | exact rfl) (by first | with_reducible assumption | exact rfl); clear hr0) | (with_reducible refine at_list ?_; refine wpList_neg rfl rfl rfl ?_; intro r hr0; have hr := hr0 _ (by first | with_reducible assumption | exact rfl); clear hr0) | (with_reducible refine at_list ?_; refine wpList_fop_g rfl rfl rfl rfl rfl ?_; intro r n hr0; have hr := hr0 _ _ (by first | with_reducible assumption | exact rfl) (by first | with_reducible assumption | exact rfl); clear hr0) | (with_reducible refine at_list ?_; refine wpList_wide_g rfl rfl Try.underlying22 Try.underlying40 rfl ?_; intro r n hr0; have hr := hr0 _ (by first | with_reducible assumption | exact rfl); clear hr0) | (with_reducible refine at_list ?_; refine wpList_wide rfl rfl rfl Try.underlying22 Try.underlying40 ?_; intro r n hr0; have hr := hr0 _ (by first | with_reducible assumption | exact rfl); clear hr0) | (go_at_call 23; refine (implMostTick_any _ _ _ _ _ (by assumption)).mono ?_; rintro e w' ⟨r, rfl, hr, hb⟩; obtain ⟨hT, hk⟩ := bv_next hb (by (repeat (with_reducible first | assumption | apply Trk.alloc | apply Trk.setCell | apply Trk.drewN | apply Trk.drew | exact Trk.nil _))); simp only [SameOn, World.size_alloc, World.size_setCell, World.size_drew, size_drewN', and_true] at hk; have hsz := Below.size hb; (try simp only [World.size_alloc, World.size_setCell, World.size_drew, size_drewN'] at hsz)) | (go_at_call 30; refine (implFronts_any _ _ _ _ _ (by assumption)).mono ?_; rintro e w' ⟨u, ys, rfl, hb, hO, hL⟩; obtain ⟨pu, cu, rfl⟩ := OF.shape hO; (try simp only [World.size_alloc, World.size_setCell, World.size_drew, World.drewN] at hO); obtain ⟨hT, hk⟩ := bv_next hb (by (repeat (with_reducible first | assumption | apply Trk.alloc | apply Trk.setCell | apply Trk.drewN | apply Trk.drew | exact Trk.nil _))); simp only [SameOn, World.size_alloc, World.size_setCell, World.size_drew, size_drewN', and_true] at hk; have hsz := Below.size hb; (try simp only [World.size_alloc, World.size_setCell, World.size_drew, size_drewN'] at hsz)) | (go_at_call 51; refine ((HN.out _ _ _ (by with_reducible assumption) (by with_reducible assumption)) ).mono ?_; rintro e w' ⟨r, rfl, hr, hb⟩; obtain ⟨hT, hk⟩ := bv_next hb (by (repeat (with_reducible first | assumption | apply Trk.alloc | apply Trk.setCell | apply Trk.drewN | apply Trk.drew | exact Trk.nil _))); simp only [SameOn, World.size_alloc, World.size_setCell, World.size_drew, size_drewN', and_true] at hk; have hsz := Below.size hb; (try simp only [World.size_alloc, World.size_setCell, World.size_drew, size_drewN'] at hsz)) | (go_at_call 51; refine ((HF.out _ _ _ (by with_reducible assumption) (by with_reducible assumption)) ).mono ?_; rintro e w' ⟨r, rfl, hr, hb⟩; obtain ⟨hT, hk⟩ := bv_next hb (by (repeat (with_reducible first | assumption | apply Trk.alloc | apply Trk.setCell | apply Trk.drewN | apply Trk.drew | exact Trk.nil _))); simp only [SameOn, World.size_alloc, World.size_setCell, World.size_drew, size_drewN', and_true] at hk; have hsz := Below.size hb; (try simp only [World.size_alloc, World.size_setCell, World.size_drew, size_drewN'] at hsz)) | (go_at_call 51; refine ((HH.out _ _ _ (by with_reducible assumption) (by with_reducible assumption)) ).mono ?_; rintro e w' ⟨r, rfl, hr, hb⟩; obtain ⟨hT, hk⟩ := bv_next hb (by (repeat (with_reducible first | assumption | apply Trk.alloc | apply Trk.setCell | apply Trk.drewN | apply Trk.drew | exact Trk.nil _))); simp only [SameOn, World.size_alloc, World.size_setCell, World.size_drew, size_drewN', and_true] at hk; have hsz := Below.size hb; (try simp only [World.size_alloc, World.size_setCell, World.size_drew, size_drewN'] at hsz)) | (go_at_call 51; refine ((HZ.out _ _ (by with_reducible assumption)) ).mono ?_; rintro e w' ⟨r, rfl, hr, hb⟩; obtain ⟨hT, hk⟩ := bv_next hb (by (repeat (with_reducible first | assumption | apply Trk.alloc | apply Trk.setCell | apply Trk.drewN | apply Trk.drew | exact Trk.nil _))); simp only [SameOn, World.size_alloc, World.size_setCell, World.size_drew, size_drewN', and_true] at hk; have hsz := Below.size hb; (try simp only [World.size_alloc, World.size_setCell, World.size_drew, size_drewN'] at hsz)))
          clear HN HF HH HZ st0 st1 st2 st3 st4 st5
          go_wp2_with (first | (with_reducible refine at_list ?_; refine wpList_fop rfl rfl rfl rfl rfl ?_; intro r n hr0; have hr := hr0 _ _ (by first | with_reducible assumption | exact rfl) (by first | with_reducible assumption | exact rfl); clear hr0) | (with_reducible refine at_list ?_; refine wpList_neg rfl rfl rfl ?_; intro r hr0; have hr := hr0 _ (by first | with_reducible assumption | exact rfl); clear hr0) | (with_reducible refine at_list ?_; refine wpList_fop_g rfl rfl rfl rfl rfl ?_; intro r n hr0; have hr := hr0 _ _ (by first | with_reducible assumption | exact rfl) (by first | with_reducible assumption | exact rfl); clear hr0) | (with_reducible refine at_list ?_; refine wpList_wide_g rfl rfl Try.underlying22 Try.underlying40 rfl ?_; intro r n hr0; have hr := hr0 _ (by first | with_reducible assumption | exact rfl); clear hr0) | (with_reducible refine at_list ?_; refine wpList_wide rfl rfl rfl Try.underlying22 Try.underlying40 ?_; intro r n hr0; have hr := hr0 _ (by first | with_reducible assumption | exact rfl); clear hr0) | (go_at_call 47; refine stop_here ?_) | (go_at_call 23; refine (implMostTick_any _ _ _ _ _ (by assumption)).mono ?_; rintro e w' ⟨r, rfl, hr, hb⟩; obtain ⟨hT, hk⟩ := bv_next hb (by (repeat (with_reducible first | assumption | apply Trk.alloc | apply Trk.setCell | apply Trk.drewN | apply Trk.drew | exact Trk.nil _))); simp only [SameOn, World.size_alloc, World.size_setCell, World.size_drew, size_drewN', and_true] at hk; have hsz := Below.size hb; (try simp only [World.size_alloc, World.size_setCell, World.size_drew, size_drewN'] at hsz)) | (go_at_call 30; refine (implFronts_any _ _ _ _ _ (by assumption)).mono ?_; rintro e w' ⟨u, ys, rfl, hb, hO, hL⟩; obtain ⟨pu, cu, rfl⟩ := OF.shape hO; (try simp only [World.size_alloc, World.size_setCell, World.size_drew, World.drewN] at hO); obtain ⟨hT, hk⟩ := bv_next hb (by (repeat (with_reducible first | assumption | apply Trk.alloc | apply Trk.setCell | apply Trk.drewN | apply Trk.drew | exact Trk.nil _))); simp only [SameOn, World.size_alloc, World.size_setCell, World.size_drew, size_drewN', and_true] at hk; have hsz := Below.size hb; (try simp only [World.size_alloc, World.size_setCell, World.size_drew, size_drewN'] at hsz)))
          unfold Stop
          refine (b10At_any _ _ _ 2 16 _ ((HQ.out.later (C := w.heap.size) (by (repeat (first | (with_reducible exact Below.refl _ _) | (with_reducible assumption) | (with_reducible refine below_then ?_ (by assumption)) | (with_reducible refine Below.trans ?_ (by assumption)) | (with_reducible refine below_drewN ?_ _) | (with_reducible apply Below.drew) | (with_reducible refine below_alloc ?_ _) | refine Below.setCell ?_ (by first | (simp; done) | (simp; omega)) _))) (Nat.le_refl _)).mono (by have := hbw.size; first | omega | (simp only [World.size_alloc, World.size_setCell, World.size_drew, size_drewN'] at *; omega))) (by omega) (by omega)).mono ?_
          rintro e w' ⟨i2, rfl, ⟨hi21, hi22⟩, nq, rfl⟩
          go_upto_region 28 with (first | (with_reducible refine at_list ?_; refine wpList_fop rfl rfl rfl rfl rfl ?_; intro r n hr0; have hr := hr0 _ _ (by first | with_reducible assumption | exact rfl) (by first | with_reducible assumption | exact rfl); clear hr0) | (with_reducible refine at_list ?_; refine wpList_neg rfl rfl rfl ?_; intro r hr0; have hr := hr0 _ (by first | with_reducible assumption | exact rfl); clear hr0) | (with_reducible refine at_list ?_; refine wpList_fop_g rfl rfl rfl rfl rfl ?_; intro r n hr0; have hr := hr0 _ _ (by first | with_reducible assumption | exact rfl) (by first | with_reducible assumption | exact rfl); clear hr0) | (with_reducible refine at_list ?_; refine wpList_wide_g rfl rfl Try.underlying22 Try.underlying40 rfl ?_; intro r n hr0; have hr := hr0 _ (by first | with_reducible assumption | exact rfl); clear hr0) | (with_reducible refine at_list ?_; refine wpList_wide rfl rfl rfl Try.underlying22 Try.underlying40 ?_; intro r n hr0; have hr := hr0 _ (by first | with_reducible assumption | exact rfl); clear hr0) | (go_at_call 23; refine (implMostTick_any _ _ _ _ _ (by assumption)).mono ?_; rintro e w' ⟨r, rfl, hr, hb⟩; obtain ⟨hT, hk⟩ := bv_next hb (by (repeat (with_reducible first | assumption | apply Trk.alloc | apply Trk.setCell | apply Trk.drewN | apply Trk.drew | exact Trk.nil _))); simp only [SameOn, World.size_alloc, World.size_setCell, World.size_drew, size_drewN', and_true] at hk; have hsz := Below.size hb; (try simp only [World.size_alloc, World.size_setCell, World.size_drew, size_drewN'] at hsz)) | (go_at_call 30; refine (implFronts_any _ _ _ _ _ (by assumption)).mono ?_; rintro e w' ⟨u, ys, rfl, hb, hO, hL⟩; obtain ⟨pu, cu, rfl⟩ := OF.shape hO; (try simp only [World.size_alloc, World.size_setCell, World.size_drew, World.drewN] at hO); obtain ⟨hT, hk⟩ := bv_next hb (by (repeat (with_reducible first | assumption | apply Trk.alloc | apply Trk.setCell | apply Trk.drewN | apply Trk.drew | exact Trk.nil _))); simp only [SameOn, World.size_alloc, World.size_setCell, World.size_drew, size_drewN', and_true] at hk; have hsz := Below.size hb; (try simp only [World.size_alloc, World.size_setCell, World.size_drew, size_drewN'] at hsz)))
          obtain ⟨xs, rfl⟩ : ∃ x, x = r := ⟨r, rfl⟩
          have hS := eighth_val (n := 1 + i2) (by omega)
          have hxs : cn .f32 xs = fop .quo .f32 (cn .f32 (floatOfInt .f32 (1 + i2))) (cn .f32 1090519040) := hr
          clear hr
          generalize fop .quo .f32 (cn .f32 (floatOfInt .f32 (1 + i2))) (cn .f32 1090519040) = S at hS hxs
          obtain ⟨k, hk⟩ : ∃ k : Nat, i2 = k := Int.eq_ofNat_of_zero_le (by omega)
          subst hk
          have hRT := rt_of (w := S) (k := k) (by omega) (by rw [show ((k + 1 : Nat) : Rat) = ((1 + (k : Int) : Int) : Rat) by rw [show (1 + (k : Int)) = ((k + 1 : Nat) : Int) by omega, Rat.intCast_natCast]]; exact hS)
          have hab : abv S = true := abv_of hS.1 (by rw [hS.2]; have : ((1 : Int) : Rat) ≤ ((1 + (k : Int) : Int) : Rat) := icast_le (by omega); have z : ((1 : Int) : Rat) = 1 := rfl; rw [z] at this; grind)
          obtain ⟨R, hR⟩ : ∃ R, stF S = R := ⟨_, rfl⟩
          rw [hR] at hRT
          obtain ⟨k1, k2, k3, k4⟩ := fr_rest hR hab hRT
          have g4 := hRT.gap
          have g5 := hRT.opp
          have g6 := hRT.pos
          have g7 := hRT.one
          have fR := hRT.fR
          have fS := hRT.fS
          have fC := hRT.fC
          have fO := hRT.fO
          clear hRT hab hR hS
          generalize sqW R = SQ at k2 g4 fS
          generalize cuW R = CU at k3 g4 g5 g6 g7 fC
          generalize cuW (fneg .f32 R) = CO at k4 g5 fO
          have K1 := Lib.hid k1
          have K2 := Lib.hid k2
          have K3 := Lib.hid k3
          have K4 := Lib.hid k4
          clear k1 k2 k3 k4
          obtain ⟨g1, g2, g3⟩ := G1.out
          have HG1 := Lib.hid (fun w x y hx hy => ba_gap (X := wide FF) (Y := fop .mul .f64 (cn .f64 4611686018427387904) (wide FN)) x y w hx hy)
          have HG2 := Lib.hid (fun w x y hx hy => ba_gap (X := fop .mul .f64 (fop .mul .f64 (fop .mul .f64 (cn .f64 4610661241896218294) (wide R)) (wide SQ)) (wide CU)) (Y := wide S) x y w hx hy)
          have HG3 := Lib.hid (fun w x y hx hy => ba_gap (X := wide CU) (Y := fneg .f64 (wide CO)) x y w hx hy)
          simp only [cTho, cOne64] at g2 g4 g5
          go_upto_region 32 with (first | (with_reducible refine at_list ?_; refine wpList_fop rfl rfl rfl rfl rfl ?_; intro r n hr0; have hr := hr0 _ _ (by first | with_reducible assumption | exact rfl) (by first | with_reducible assumption | exact rfl); clear hr0) | (with_reducible refine at_list ?_; refine wpList_neg rfl rfl rfl ?_; intro r hr0; have hr := hr0 _ (by first | with_reducible assumption | exact rfl); clear hr0) | (with_reducible refine at_list ?_; refine wpList_fop_g rfl rfl rfl rfl rfl ?_; intro r n hr0; have hr := hr0 _ _ (by first | with_reducible assumption | exact rfl) (by first | with_reducible assumption | exact rfl); clear hr0) | (with_reducible refine at_list ?_; refine wpList_wide_g rfl rfl Try.underlying22 Try.underlying40 rfl ?_; intro r n hr0; have hr := hr0 _ (by first | with_reducible assumption | exact rfl); clear hr0) | (with_reducible refine at_list ?_; refine wpList_wide rfl rfl rfl Try.underlying22 Try.underlying40 ?_; intro r n hr0; have hr := hr0 _ (by first | with_reducible assumption | exact rfl); clear hr0) | (go_at_call 23; refine (implMostTick_any _ _ _ _ _ (by assumption)).mono ?_; rintro e w' ⟨r, rfl, hr, hb⟩; obtain ⟨hT, hk⟩ := bv_next hb (by (repeat (with_reducible first | assumption | apply Trk.alloc | apply Trk.setCell | apply Trk.drewN | apply Trk.drew | exact Trk.nil _))); simp only [SameOn, World.size_alloc, World.size_setCell, World.size_drew, size_drewN', and_true] at hk; have hsz := Below.size hb; (try simp only [World.size_alloc, World.size_setCell, World.size_drew, size_drewN'] at hsz)) | (go_at_call 30; refine (implFronts_any _ _ _ _ _ (by assumption)).mono ?_; rintro e w' ⟨u, ys, rfl, hb, hO, hL⟩; obtain ⟨pu, cu, rfl⟩ := OF.shape hO; (try simp only [World.size_alloc, World.size_setCell, World.size_drew, World.drewN] at hO); obtain ⟨hT, hk⟩ := bv_next hb (by (repeat (with_reducible first | assumption | apply Trk.alloc | apply Trk.setCell | apply Trk.drewN | apply Trk.drew | exact Trk.nil _))); simp only [SameOn, World.size_alloc, World.size_setCell, World.size_drew, size_drewN', and_true] at hk; have hsz := Below.size hb; (try simp only [World.size_alloc, World.size_setCell, World.size_drew, size_drewN'] at hsz)) | (go_at_call 52; refine ((K1.out _ _ (by with_reducible assumption)) ).mono ?_; rintro e w' ⟨r, rfl, hr, hb⟩; obtain ⟨hT, hk⟩ := bv_next hb (by (repeat (with_reducible first | assumption | apply Trk.alloc | apply Trk.setCell | apply Trk.drewN | apply Trk.drew | exact Trk.nil _))); simp only [SameOn, World.size_alloc, World.size_setCell, World.size_drew, size_drewN', and_true] at hk; have hsz := Below.size hb; (try simp only [World.size_alloc, World.size_setCell, World.size_drew, size_drewN'] at hsz)) | (go_at_call 53; refine ((K2.out _ _ (by with_reducible assumption)) ).mono ?_; rintro e w' ⟨r, rfl, hr, n, rfl⟩) | (go_at_call 54; refine ((K3.out _ _ (by with_reducible assumption)) ).mono ?_; rintro e w' ⟨r, rfl, hr, n, rfl⟩) | (go_at_call 54; refine ((K4.out _ _ (by with_reducible assumption)) ).mono ?_; rintro e w' ⟨r, rfl, hr, n, rfl⟩))
          simp only [List.append]
          go_wp2_with (first | (with_reducible refine at_list ?_; refine wpList_fop rfl rfl rfl rfl rfl ?_; intro r n hr0; have hr := hr0 _ _ (by first | with_reducible assumption | exact rfl) (by first | with_reducible assumption | exact rfl); clear hr0) | (with_reducible refine at_list ?_; refine wpList_neg rfl rfl rfl ?_; intro r hr0; have hr := hr0 _ (by first | with_reducible assumption | exact rfl); clear hr0) | (with_reducible refine at_list ?_; refine wpList_fop_g rfl rfl rfl rfl rfl ?_; intro r n hr0; have hr := hr0 _ _ (by first | with_reducible assumption | exact rfl) (by first | with_reducible assumption | exact rfl); clear hr0) | (with_reducible refine at_list ?_; refine wpList_wide_g rfl rfl Try.underlying22 Try.underlying40 rfl ?_; intro r n hr0; have hr := hr0 _ (by first | with_reducible assumption | exact rfl); clear hr0) | (with_reducible refine at_list ?_; refine wpList_wide rfl rfl rfl Try.underlying22 Try.underlying40 ?_; intro r n hr0; have hr := hr0 _ (by first | with_reducible assumption | exact rfl); clear hr0) | (with_reducible refine at_list ?_; refine wpList_neg_g rfl rfl rfl ?_; intro r hr0; have hr := hr0 _ (by first | with_reducible assumption | exact rfl); clear hr0) | (go_at_call 23; refine (implMostTick_any _ _ _ _ _ (by assumption)).mono ?_; rintro e w' ⟨r, rfl, hr, hb⟩; obtain ⟨hT, hk⟩ := bv_next hb (by (repeat (with_reducible first | assumption | apply Trk.alloc | apply Trk.setCell | apply Trk.drewN | apply Trk.drew | exact Trk.nil _))); simp only [SameOn, World.size_alloc, World.size_setCell, World.size_drew, size_drewN', and_true] at hk; have hsz := Below.size hb; (try simp only [World.size_alloc, World.size_setCell, World.size_drew, size_drewN'] at hsz)) | (go_at_call 30; refine (implFronts_any _ _ _ _ _ (by assumption)).mono ?_; rintro e w' ⟨u, ys, rfl, hb, hO, hL⟩; obtain ⟨pu, cu, rfl⟩ := OF.shape hO; (try simp only [World.size_alloc, World.size_setCell, World.size_drew, World.drewN] at hO); obtain ⟨hT, hk⟩ := bv_next hb (by (repeat (with_reducible first | assumption | apply Trk.alloc | apply Trk.setCell | apply Trk.drewN | apply Trk.drew | exact Trk.nil _))); simp only [SameOn, World.size_alloc, World.size_setCell, World.size_drew, size_drewN', and_true] at hk; have hsz := Below.size hb; (try simp only [World.size_alloc, World.size_setCell, World.size_drew, size_drewN'] at hsz)) | (go_at_call 48; refine ((HG1.out _ _ _ (by with_reducible assumption) (by with_reducible assumption)) ).mono ?_; rintro e w' ⟨r, rfl, hr, n, rfl⟩) | (go_at_call 48; refine ((HG2.out _ _ _ (by with_reducible assumption) (by with_reducible assumption)) ).mono ?_; rintro e w' ⟨r, rfl, hr, n, rfl⟩) | (go_at_call 48; refine ((HG3.out _ _ _ (by with_reducible assumption) (by with_reducible assumption)) ).mono ?_; rintro e w' ⟨r, rfl, hr, n, rfl⟩))
          go_ret
          exact ⟨rfl, by (repeat (first | (with_reducible exact Below.refl _ _) | (with_reducible assumption) | (with_reducible refine below_then ?_ (by assumption)) | (with_reducible refine Below.trans ?_ (by assumption)) | (with_reducible refine below_drewN ?_ _) | (with_reducible apply Below.drew) | (with_reducible refine below_alloc ?_ _) | refine Below.setCell ?_ (by first | (simp; done) | (simp; omega)) _))⟩
set_option maxRecDepth 100000 in
set_option maxHeartbeats 2000000 in
theorem lifted_FnFronts (os : Os) (started : os.Started) (H : Type) (enc : TypeId × Value → H) :
    ReturnsInHanded {} Try.checked os 14 .any (Rows.fnFrontsSpec.pre6 enc Try.prog Try.f14 Rows.fnFrontsRow.domain false) (Rows.fnFrontsSpec.post enc Try.prog Try.f14 false true false false) := by
  refine returnsInHanded_of_change (C := Try.checked) own started (by kernel_rfl) Try.func14
    (ChangeSpec.witness6 (enc := enc) (C := Try.checked) false ⟨#[], #[.slice none 0 0, .slice none 0 0], []⟩ 8 (by kernel_rfl) (by kernel_rfl) (by kernel_rfl) (by kernel_rfl)) ?_
  intro W base args ds gs before hval0 hW hcnd _
  have hval : ∀ (j : Nat) t v, Try.f14.params[j]? = some t → args[j]? = some v → Value.okWide Try.prog W .any base t v := hval0
  have hW' := hW
  obtain ⟨p, q, hA0, hV, rfl, hfz, hnd⟩ := hW
  have hA : DataW.TrodAll enc Try.prog W 0 (fun _ => true) true Try.f14.params.toList args.toList ds p := hA0
  rw [Try.params14] at hA hval
  obtain ⟨v0, vs0, d0, ds0, p0, q0, hargs, rfl, rfl, h0, r0⟩ := trodAll_cons hA
  obtain ⟨v1, vs1, d1, ds1, p1, q1, rfl, rfl, rfl, h1, r1⟩ := trodAll_cons r0
  obtain ⟨rfl, rfl, rfl⟩ := trodAll_nil r1
  obtain rfl : args = #[v0, v1] := by cases args; simp_all
  obtain ⟨rfl, rfl⟩ := trodVars_none hV
  have k0 := h0
  have lt0 : ∀ x ∈ p0, x.block < W.heap.size := by obtain ⟨m, hm⟩ := k0; exact DataW.trod_lt m _ _ _ hm
  obtain ⟨pa, na, ca, rfl, w0⟩ := open_By (hval 0 55 v0 rfl rfl) h0
  have k1 := h1
  have lt1 : ∀ x ∈ p1, x.block < W.heap.size := by obtain ⟨m, hm⟩ := k1; exact DataW.trod_lt m _ _ _ hm
  obtain ⟨pb, nb, cb, rfl, w1⟩ := open_By (hval 1 55 v1 rfl rfl) h1
  clear hA0 hval0
  refine (walk_FnFronts pa na ca pb nb cb W w0 w1).mono fun e W' ⟨he, hg⟩ => ?_
  subst he
  exact ⟨_, rfl, _, _, _, [], _, [], hW', trodAll_mk1 (shut_bool Try.underlying4 _), (trodAll_cons_mk (Below.trod laidOut (by kernel_rfl) (of_decide_eq_true (by kernel_rfl)) k0 hg lt0) (trodAll_cons_mk (Below.trod laidOut (by kernel_rfl) (of_decide_eq_true (by kernel_rfl)) k1 hg lt1) trodAll_mk0)), rfl, hg.frame _, fun h => by cases h⟩
theorem fnFronts_holds : Rows.FnFrontsSaid :=
  OpenClaim.holds_of_wide 14 Try.f14 rfl rfl rfl rfl rfl rfl rfl ⟨rfl, rfl, rfl, rfl, rfl⟩ rfl rfl rfl rfl rfl (by kernel_rfl) Try.func14 (by kernel_rfl)
    (of_decide_eq_true (by kernel_rfl)) (by unfold Func.isWrapper; rw [if_neg (of_decide_eq_false (by kernel_rfl))]; exact ⟨rfl, rfl⟩)
    (fun os started H enc _ => lifted_FnFronts os started H enc)
end Go.Proofs.Ytjeeflldbhajiaa
