/-
  A run of a bar: the reference's way. No condition but what each contract says.
-/
import Derived.Test.YtjeeflldbhajiaaBrun
import Derived.Test.YtjeeflldbhajiaaBst2
set_option linter.unusedSimpArgs false
set_option linter.unusedVariables false
set_option linter.unusedSectionVars false
namespace Go.Proofs.Ytjeeflldbhajiaa
open Go Go.RowKit
open Go.ChangeShapes Go.WideShapes Go.ChangeAt Go.RowKit Go.Joins
/-- One number appended: only the row itself turns. -/
theorem wpList_appQ {B : Nat} {xs : List Nat} {v : Value} {b r : Nat} {w : World} {ops : Array Oper} {rest : List Oper} {o : Oper} {a : Act} {Q : Exit → Act → World → Prop} (hg : o.guard = .none) {s x : Operand}
    (ho : o.op = .call { callee := .builtin .append, args := #[s, x], argTypes := #[25, 25] }) (hs : a.eval s = v) (hx : a.eval x = .slice (some ⟨b, 0, .none⟩) 1 1) (hO : OF B w v xs) (hc : w.cell? ⟨b, 0, .none⟩ = some (.float .f32 r)) (hn : xs.length < 1048576) (hB : B ≤ w.heap.size)
    (h : ∀ q c w', OF B w' (.slice q (xs.length + 1) c) (xs ++ [r]) → Below B w w' → w.grownBy w' v.ownBlock → ((Value.slice q (xs.length + 1) c).ownBlock = v.ownBlock ∨ (Value.slice q (xs.length + 1) c).ownBlock = some w.heap.size) → wpList Try.prog ops Q rest (a.put o.dst (.slice q (xs.length + 1) c)) w') : wpList Try.prog ops Q (o :: rest) a w := by
  obtain ⟨i0, hi, hz0, hz1, hz2⟩ := info_parts Try.infoF32
  refine wpList_append_own_at w hg s x 25 ho B 22 i0 (.float .f32 0) 1 4 Try.underlying25 hi hz0 hz1 hz2 rfl (by decide) v xs.length (xs.map (Value.float .f32)) hs hO ⟨b, 0, .none⟩ 1 1 [.float .f32 r] hx rfl ?_ ?_ (by unfold maxLen; omega) (by omega) hB ?_
  · intro j u hj
    match j, hj with
    | 0, hj => simp at hj; subst hj; simpa [Addr.add] using hc
    | j + 1, hj => simp at hj
  · intro u hu; simp at hu; subst hu; rfl
  · intro v' w' hown hgrow _ hblk
    have hO' : OF B w' v' (xs ++ [r]) := by
      unfold OF
      simpa using hown
    obtain ⟨q, c, rfl⟩ := hO'.shape
    simp only [List.length_append, List.length_cons, List.length_nil, Nat.zero_add] at hO' hblk ⊢
    exact h q c w' hO' ((Below.refl _ _).grown hgrow hB fun k hk => (OF.block hO k hk).1) hgrow hblk
/-- A bar in a variable of the call's own, and own numbers, apart. -/
def BsAt (B : Nat) (wr : World) (b : Nat) (s : St) (p : Nat) (X : List Nat) (q0 : Option Addr) (c0 : Nat) (q : Option Addr) (c : Nat) (ys : List Nat) : Prop := (owned wr b (barC s p (.slice q0 X.length c0)) ∧ B ≤ b) ∧ OF B wr (.slice q0 X.length c0) X ∧ OF B wr (.slice q ys.length c) ys ∧ (∀ k, (Value.slice q ys.length c).ownBlock = some k → k ≠ b) ∧ ApV (.slice q ys.length c) (.slice q0 X.length c0)
theorem bsAt_app {B W b : Nat} {wB u : World} {g0 : Option Nat} {s : St} {p : Nat} {X : List Nat} {q0 : Option Addr} {c0 : Nat} {q2 : Option Addr} {c2 : Nat} {ys2 : List Nat} (h1 : wB.grownBy u g0) (ho : owned wB b (barC s p (.slice q0 X.length c0))) (hb : B ≤ b) (hgb : ∀ k, g0 = some k → k ≠ b) (hX : OF W wB (.slice q0 X.length c0) X) (hBW : B ≤ W) (hg : ∀ k, g0 = some k → k < W) (hO : OF B u (.slice q2 ys2.length c2) ys2) (hn : (Value.slice q2 ys2.length c2).ownBlock = g0 ∨ (Value.slice q2 ys2.length c2).ownBlock = some wB.heap.size) : BsAt B u b s p X q0 c0 q2 c2 ys2 := by
  have hlt : b < wB.heap.size := World.block_lt_of_cell? _ _ (ho 0 _ rfl).1
  have k2 : OF W u (.slice q0 X.length c0) X := hX.blk fun k hk => h1.block k (hX.block k hk).2 (fun e => by have := hg k e.symm; have := (hX.block k hk).1; omega)
  have hne : ∀ k, (Value.slice q2 ys2.length c2).ownBlock = some k → k ≠ b := by
    intro k hk
    rcases hn with h | h
    · exact hgb k (h.symm.trans hk)
    · rw [h] at hk; cases hk; omega
  refine ⟨⟨owned_kept ho h1 hlt hgb, hb⟩, k2.base hBW, hO, hne, ?_⟩
  intro k hk e
  have e1 := hX.block k e
  rcases hn with h | h
  · have := hg k (h.symm.trans hk); omega
  · rw [h] at hk; cases hk; omega
theorem barAt_owned {wr : World} {b : Nat} {s : St} {p : Nat} {u : Value} (h : owned wr b (barC s p u)) : BarAt s p u wr b 0 := by
  unfold BarAt
  simp only [Nat.zero_add]
  exact ⟨⟨(h 0 _ rfl).1, (h 1 _ rfl).1, (h 2 _ rfl).1, (h 3 _ rfl).1, (h 4 _ rfl).1, (h 5 _ rfl).1⟩, (h 6 _ rfl).1, (h 7 _ rfl).1⟩
set_option maxHeartbeats 16000000 in
set_option maxRecDepth 100000 in
theorem specBrun_any (s : St) (p : Nat) (v : Value) (xs : List Nat) (l r : Nat) (b1 b2 : Bool) (t : Nat) (z : Int) (w : World) (hs : FS w v xs) : Calls Try.prog 43 #[.agg #[.float .f32 s.a, .float .f32 s.b, .float .f32 s.c, .float .f32 s.d, .float .f32 s.p, .float .f32 s.l, .float .f32 p, v], .float .f32 l, .float .f32 r, .bool b1, .bool b2, .float .f32 t, .int .i64 z] w (BBL w (bS (brB s p l r b1 b2 t xs z) s) (bP (brB s p l r b1 b2 t xs z) p) (bX (brB s p l r b1 b2 t xs z) (brX s p l r b1 b2 t xs z.toNat)) (bX (brB s p l r b1 b2 t xs z) (brL s p l r b1 b2 t xs z.toNat)) (brB s p l r b1 b2 t xs z)) := by
  have HS := Lib.hid hs
  obtain ⟨qv, cv, rfl, hc1, hc2, HV⟩ := FS_view hs
  obtain ⟨B0, hB0⟩ : ∃ B0, B0 = brB s p l r b1 b2 t xs z := ⟨_, rfl⟩
  have HB0 := Lib.hid hB0
  have HCN := Lib.hid (fun b o w h h2 => l03Can_any s p (.slice qv xs.length cv) xs l r t b o w h h2)
  rw [← hB0]
  clear hs hB0 HV
  rcases h1 : canB s p xs l r t
  · have HE : Hid (B0 = false) := by show _ = _; rw [HB0.out]; exact brB_no (by simp [brPre, h1])
    rw [h1] at HCN
    clear h1
    go_enter Try.func43, Try.ntmps43
    go_wp2_with (first | (with_reducible refine at_list ?_; refine wpList_fop rfl rfl rfl rfl rfl ?_; intro r n hr0; have hr := hr0 _ _ (by first | with_reducible assumption | exact rfl) (by first | with_reducible assumption | exact rfl); clear hr0) | (with_reducible refine at_list ?_; refine wpList_neg rfl rfl rfl ?_; intro r hr0; have hr := hr0 _ (by first | with_reducible assumption | exact rfl); clear hr0) | (with_reducible refine at_list ?_; refine wpList_fop_g rfl rfl rfl rfl rfl ?_; intro r n hr0; have hr := hr0 _ _ (by first | with_reducible assumption | exact rfl) (by first | with_reducible assumption | exact rfl); clear hr0) | (with_reducible refine at_list ?_; refine wpList_wide_g rfl rfl Try.underlying22 Try.underlying40 rfl ?_; intro r n hr0; have hr := hr0 _ (by first | with_reducible assumption | exact rfl); clear hr0) | (with_reducible refine at_list ?_; refine wpList_wide rfl rfl rfl Try.underlying22 Try.underlying40 ?_; intro r n hr0; have hr := hr0 _ (by first | with_reducible assumption | exact rfl); clear hr0) | (go_at_call 89; refine ((HCN.out _ _ _ (by unfold BarAt St.at; refine ⟨⟨?_, ?_, ?_, ?_, ?_, ?_⟩, ?_, ?_⟩ <;> go_simp) (HS.out.later (by (repeat (first | (with_reducible exact Below.refl _ _) | (with_reducible assumption) | (with_reducible refine below_then ?_ (by assumption)) | (with_reducible refine Below.trans ?_ (by assumption)) | (with_reducible refine below_drewN ?_ _) | (with_reducible apply Below.drew) | (with_reducible refine below_alloc ?_ _) | refine Below.setCell ?_ (by first | (simp; done) | (simp; omega)) _))))) ).mono ?_; rintro e w' ⟨rfl, n, rfl⟩) | (go_at_call 81; refine (l00In_any _ _ _ _).mono ?_; rintro e w' ⟨rfl, n, rfl⟩) | (go_at_call 73; refine (l03Melted_any _ _ _ _ _ _ _ (by assumption) (by assumption)).mono ?_; rintro e w' ⟨r, rfl, hr, n, rfl⟩) | (go_at_call 76; refine (l02Finite_any _ _ _ (by assumption)).mono ?_; rintro e w' ⟨rfl, n, rfl⟩))
    all_goals
      refine bodyPost_ret (v := .tuple #[.agg #[.float .f32 0, .float .f32 0, .float .f32 0, .float .f32 0, .float .f32 0, .float .f32 0, .float .f32 0, .slice none 0 0], .slice none 0 0, .bool false]) (by simp [results, Try.results43, go_sem, *]) rfl ?_
      exact bbl_no rfl (by (repeat (first | (with_reducible exact Below.refl _ _) | (with_reducible assumption) | (with_reducible refine below_then ?_ (by assumption)) | (with_reducible refine Below.trans ?_ (by assumption)) | (with_reducible refine below_drewN ?_ _) | (with_reducible apply Below.drew) | (with_reducible refine below_alloc ?_ _) | refine Below.setCell ?_ (by first | (simp; done) | (simp; omega)) _))) HE.out
  rw [h1] at HCN
  have HC1 := Lib.hid h1
  have h0 : barOk s p xs = true := by unfold canB at h1; rw [Bool.and_eq_true] at h1; exact h1.1
  rcases h3 : inB z 0 128
  · have HE : Hid (B0 = false) := by show _ = _; rw [HB0.out]; exact brB_no (by simp [brPre, h3])
    clear h0 h1
    go_enter Try.func43, Try.ntmps43
    go_wp2_with (first | (with_reducible refine at_list ?_; refine wpList_fop rfl rfl rfl rfl rfl ?_; intro r n hr0; have hr := hr0 _ _ (by first | with_reducible assumption | exact rfl) (by first | with_reducible assumption | exact rfl); clear hr0) | (with_reducible refine at_list ?_; refine wpList_neg rfl rfl rfl ?_; intro r hr0; have hr := hr0 _ (by first | with_reducible assumption | exact rfl); clear hr0) | (with_reducible refine at_list ?_; refine wpList_fop_g rfl rfl rfl rfl rfl ?_; intro r n hr0; have hr := hr0 _ _ (by first | with_reducible assumption | exact rfl) (by first | with_reducible assumption | exact rfl); clear hr0) | (with_reducible refine at_list ?_; refine wpList_wide_g rfl rfl Try.underlying22 Try.underlying40 rfl ?_; intro r n hr0; have hr := hr0 _ (by first | with_reducible assumption | exact rfl); clear hr0) | (with_reducible refine at_list ?_; refine wpList_wide rfl rfl rfl Try.underlying22 Try.underlying40 ?_; intro r n hr0; have hr := hr0 _ (by first | with_reducible assumption | exact rfl); clear hr0) | (go_at_call 89; refine ((HCN.out _ _ _ (by unfold BarAt St.at; refine ⟨⟨?_, ?_, ?_, ?_, ?_, ?_⟩, ?_, ?_⟩ <;> go_simp) (HS.out.later (by (repeat (first | (with_reducible exact Below.refl _ _) | (with_reducible assumption) | (with_reducible refine below_then ?_ (by assumption)) | (with_reducible refine Below.trans ?_ (by assumption)) | (with_reducible refine below_drewN ?_ _) | (with_reducible apply Below.drew) | (with_reducible refine below_alloc ?_ _) | refine Below.setCell ?_ (by first | (simp; done) | (simp; omega)) _))))) ).mono ?_; rintro e w' ⟨rfl, n, rfl⟩) | (go_at_call 81; refine (l00In_any _ _ _ _).mono ?_; rintro e w' ⟨rfl, n, rfl⟩) | (go_at_call 73; refine (l03Melted_any _ _ _ _ _ _ _ (by assumption) (by assumption)).mono ?_; rintro e w' ⟨r, rfl, hr, n, rfl⟩) | (go_at_call 76; refine (l02Finite_any _ _ _ (by assumption)).mono ?_; rintro e w' ⟨rfl, n, rfl⟩))
    all_goals
      refine bodyPost_ret (v := .tuple #[.agg #[.float .f32 0, .float .f32 0, .float .f32 0, .float .f32 0, .float .f32 0, .float .f32 0, .float .f32 0, .slice none 0 0], .slice none 0 0, .bool false]) (by simp [results, Try.results43, go_sem, *]) rfl ?_
      exact bbl_no rfl (by (repeat (first | (with_reducible exact Below.refl _ _) | (with_reducible assumption) | (with_reducible refine below_then ?_ (by assumption)) | (with_reducible refine Below.trans ?_ (by assumption)) | (with_reducible refine below_drewN ?_ _) | (with_reducible apply Below.drew) | (with_reducible refine below_alloc ?_ _) | refine Below.setCell ?_ (by first | (simp; done) | (simp; omega)) _))) HE.out
  have hin : 0 ≤ z ∧ z ≤ 128 := by simpa [inB] using h3
  obtain ⟨N, hN⟩ : ∃ N : Nat, N = z.toNat := ⟨_, rfl⟩
  obtain ⟨RK, MK, UK, OK, HT, LK, ⟨hRK, hMK, hRS, hUK, hLK, hHT⟩, ⟨r0, -, o0, l0⟩, -, hOS, hUE, hLS, hLL, hOk, -, hStop, -⟩ := br_abs (s := s) (p := p) (l := l) (r := r) (b1 := b1) (b2 := b2) (t := t) (xs := xs) h0
  have HU : Hid (B0 = UK N) := by show _ = _; rw [HB0.out, hN, hUK]; exact brB_yes (by unfold brPre; rw [h1, h3]; rfl)
  have HPL : Hid (∀ k, OK k = true → 1 ≤ (RK k).length ∧ (RK k).length ≤ 48) := fun k h => barOk_len (hOk k h)
  have HM : Hid (∀ (k : Nat) (u : Value) (b o : Nat) (w' : World), OK k = true → BarAt s p u w' b o → FS w' u (RK k) → Calls Try.prog 90 #[.pointer (some ⟨b, o, none⟩), .float .f32 l, .float .f32 r, .bool b1, .bool b2, .float .f32 t] w' (BBE w' s p (RK (k + 1)) (MK k))) := fun k u b o w' hok ha h => by
    have h9 := l03Step_any s p u (RK k) l r b1 b2 t b o w' ha h (HPL.out k hok).1 (HPL.out k hok).2
    rw [← hRS k, ← hMK k] at h9
    exact h9
  have HHT : Hid (∀ (k : Nat) (u : Value) (b o : Nat) (w : World), BarAt s p u w b o → FS w u (RK k) → Calls Try.prog 73 #[.pointer (some ⟨b, o, none⟩)] w (RF w .f32 (HT k))) := fun k u b o w ha h => by
    have h2 := l03Melted_any s p u (RK k) b o w ha h
    rw [← hHT k] at h2
    exact h2
  rw [← hRK, ← hLK, ← hN]
  have HF := Lib.hid (And.intro hOS (And.intro hLS (And.intro hLL (And.intro hStop hUE))))
  have HR0 := Lib.hid (And.intro r0 (And.intro o0 l0))
  have HNN := Lib.hid hN
  have hmx : (z.toNat : Int) = z := by omega
  have HMX := Lib.hid hmx
  have HLN := Lib.hid (barOk_len h0)
  clear h0 h1 hRK hMK hRS hUK hLK hHT r0 o0 l0 hOS hUE hLS hLL hOk hStop HB0 hN hmx
  go_enter Try.func43, Try.ntmps43
  go_wp2_with (first | (with_reducible refine at_list ?_; refine wpList_fop rfl rfl rfl rfl rfl ?_; intro r n hr0; have hr := hr0 _ _ (by first | with_reducible assumption | exact rfl) (by first | with_reducible assumption | exact rfl); clear hr0) | (with_reducible refine at_list ?_; refine wpList_neg rfl rfl rfl ?_; intro r hr0; have hr := hr0 _ (by first | with_reducible assumption | exact rfl); clear hr0) | (with_reducible refine at_list ?_; refine wpList_fop_g rfl rfl rfl rfl rfl ?_; intro r n hr0; have hr := hr0 _ _ (by first | with_reducible assumption | exact rfl) (by first | with_reducible assumption | exact rfl); clear hr0) | (with_reducible refine at_list ?_; refine wpList_wide_g rfl rfl Try.underlying22 Try.underlying40 rfl ?_; intro r n hr0; have hr := hr0 _ (by first | with_reducible assumption | exact rfl); clear hr0) | (with_reducible refine at_list ?_; refine wpList_wide rfl rfl rfl Try.underlying22 Try.underlying40 ?_; intro r n hr0; have hr := hr0 _ (by first | with_reducible assumption | exact rfl); clear hr0) | (go_at_call 92; refine stop_here ?_) | (go_at_call 89; refine ((HCN.out _ _ _ (by unfold BarAt St.at; refine ⟨⟨?_, ?_, ?_, ?_, ?_, ?_⟩, ?_, ?_⟩ <;> go_simp) (HS.out.later (by (repeat (first | (with_reducible exact Below.refl _ _) | (with_reducible assumption) | (with_reducible refine below_then ?_ (by assumption)) | (with_reducible refine Below.trans ?_ (by assumption)) | (with_reducible refine below_drewN ?_ _) | (with_reducible apply Below.drew) | (with_reducible refine below_alloc ?_ _) | refine Below.setCell ?_ (by first | (simp; done) | (simp; omega)) _))))) ).mono ?_; rintro e w' ⟨rfl, n, rfl⟩) | (go_at_call 81; refine (l00In_any _ _ _ _).mono ?_; rintro e w' ⟨rfl, n, rfl⟩) | (go_at_call 73; refine (l03Melted_any _ _ _ _ _ _ _ (by assumption) (by assumption)).mono ?_; rintro e w' ⟨r, rfl, hr, n, rfl⟩) | (go_at_call 76; refine (l02Finite_any _ _ _ (by assumption)).mono ?_; rintro e w' ⟨rfl, n, rfl⟩))
  unfold Stop
  refine (l03Own_any s p (.slice qv xs.length cv) xs _ _ _ (by unfold BarAt St.at; refine ⟨⟨?_, ?_, ?_, ?_, ?_, ?_⟩, ?_, ?_⟩ <;> go_simp) (HS.out.later (by (repeat (first | (with_reducible exact Below.refl _ _) | (with_reducible assumption) | (with_reducible refine below_then ?_ (by assumption)) | (with_reducible refine Below.trans ?_ (by assumption)) | (with_reducible refine below_drewN ?_ _) | (with_reducible apply Below.drew) | (with_reducible refine below_alloc ?_ _) | refine Below.setCell ?_ (by first | (simp; done) | (simp; omega)) _)))) HLN.out.2).mono ?_
  rintro e w' ⟨u0, rfl, hb, hX⟩
  obtain ⟨q0, c0, rfl⟩ := OF.shape hX
  obtain ⟨hT, hk⟩ := bv_next hb (by (repeat (with_reducible first | assumption | apply Trk.alloc | apply Trk.setCell | apply Trk.drewN | apply Trk.drew | exact Trk.nil _))); simp only [SameOn, World.size_alloc, World.size_setCell, World.size_drew, size_drewN', and_true] at hk; have hsz := Below.size hb; (try simp only [World.size_alloc, World.size_setCell, World.size_drew, size_drewN'] at hsz)
  have HX := Lib.hid hX
  clear hX
  go_wp2_with (first | (with_reducible refine at_list ?_; refine wpList_fop rfl rfl rfl rfl rfl ?_; intro r n hr0; have hr := hr0 _ _ (by first | with_reducible assumption | exact rfl) (by first | with_reducible assumption | exact rfl); clear hr0) | (with_reducible refine at_list ?_; refine wpList_neg rfl rfl rfl ?_; intro r hr0; have hr := hr0 _ (by first | with_reducible assumption | exact rfl); clear hr0) | (with_reducible refine at_list ?_; refine wpList_fop_g rfl rfl rfl rfl rfl ?_; intro r n hr0; have hr := hr0 _ _ (by first | with_reducible assumption | exact rfl) (by first | with_reducible assumption | exact rfl); clear hr0) | (with_reducible refine at_list ?_; refine wpList_wide_g rfl rfl Try.underlying22 Try.underlying40 rfl ?_; intro r n hr0; have hr := hr0 _ (by first | with_reducible assumption | exact rfl); clear hr0) | (with_reducible refine at_list ?_; refine wpList_wide rfl rfl rfl Try.underlying22 Try.underlying40 ?_; intro r n hr0; have hr := hr0 _ (by first | with_reducible assumption | exact rfl); clear hr0) | (go_at_call 89; refine (l03Can_any _ _ _ _ _ _ _ _ _ _ (by assumption) (by assumption)).mono ?_; rintro e w' ⟨rfl, n, rfl⟩) | (go_at_call 81; refine (l00In_any _ _ _ _).mono ?_; rintro e w' ⟨rfl, n, rfl⟩) | (go_at_call 73; refine (l03Melted_any _ _ _ _ _ _ _ (by assumption) (by assumption)).mono ?_; rintro e w' ⟨r, rfl, hr, n, rfl⟩) | (go_at_call 76; refine (l02Finite_any _ _ _ (by assumption)).mono ?_; rintro e w' ⟨rfl, n, rfl⟩))
  refine wp_named ?_
  intro ws hws
  obtain ⟨B, b17, hBw, hB17, HBS, HRA, HR8⟩ : ∃ B b17, (w.heap.size + 2 ≤ B ∧ B ≤ w'.heap.size) ∧ b17 = w'.heap.size ∧ Hid (Below w.heap.size w ws ∧ b17 < ws.heap.size) ∧ Hid (BsAt B ws b17 s p xs q0 c0 (some ⟨w'.heap.size + 1, 0, none⟩) 0 []) ∧ Hid ((ws.cell? ⟨w.heap.size + 1, 0, none⟩ = some (.float .f32 0) ∧ ws.cell? ⟨w.heap.size + 1, 1, none⟩ = some (.float .f32 0) ∧ ws.cell? ⟨w.heap.size + 1, 2, none⟩ = some (.float .f32 0) ∧ ws.cell? ⟨w.heap.size + 1, 3, none⟩ = some (.float .f32 0) ∧ ws.cell? ⟨w.heap.size + 1, 4, none⟩ = some (.float .f32 0) ∧ ws.cell? ⟨w.heap.size + 1, 5, none⟩ = some (.float .f32 0) ∧ ws.cell? ⟨w.heap.size + 1, 6, none⟩ = some (.float .f32 0) ∧ ws.cell? ⟨w.heap.size + 1, 7, none⟩ = some (.slice none 0 0)) ∧ ∀ o, ws.frozen? ⟨w.heap.size + 1, o, none⟩ = false) := by
    have hsz' := hb.size
    simp only [World.size_alloc, World.size_setCell, World.size_drew, size_drewN'] at hsz'
    have hX := HX.out
    simp only [World.size_alloc, World.size_setCell, World.size_drew, size_drewN'] at hX
    refine ⟨w.heap.size + 2, w'.heap.size, ⟨Nat.le_refl _, by omega⟩, rfl, ?_, ?_, ?_⟩
    · rw [hws]; exact ⟨by (repeat (first | (with_reducible exact Below.refl _ _) | (with_reducible assumption) | (with_reducible refine below_then ?_ (by assumption)) | (with_reducible refine Below.trans ?_ (by assumption)) | (with_reducible refine below_drewN ?_ _) | (with_reducible apply Below.drew) | (with_reducible refine below_alloc ?_ _) | refine Below.setCell ?_ (by first | (simp; done) | (simp; omega)) _)), by first | (simp; done) | (simp; omega)⟩
    · refine ⟨⟨?_, by omega⟩, (hX.base (B' := w.heap.size + 2) (by omega)).later (by rw [hws]; (repeat (first | (with_reducible exact Below.refl _ _) | (with_reducible assumption) | (with_reducible refine below_then ?_ (by assumption)) | (with_reducible refine Below.trans ?_ (by assumption)) | (with_reducible refine below_drewN ?_ _) | (with_reducible apply Below.drew) | (with_reducible refine below_alloc ?_ _) | refine Below.setCell ?_ (by first | (simp; done) | (simp; omega)) _))), ?_, fun k hk => by (have e : w'.heap.size + 1 = k := by cases hk; rfl); omega, ?_⟩
      · rw [hws]
        intro j x hj
        unfold barC at hj
        match j, hj with
        | 0, hj => simp at hj; subst hj; exact ⟨by go_simp, by go_simp⟩
        | 1, hj => simp at hj; subst hj; exact ⟨by go_simp, by go_simp⟩
        | 2, hj => simp at hj; subst hj; exact ⟨by go_simp, by go_simp⟩
        | 3, hj => simp at hj; subst hj; exact ⟨by go_simp, by go_simp⟩
        | 4, hj => simp at hj; subst hj; exact ⟨by go_simp, by go_simp⟩
        | 5, hj => simp at hj; subst hj; exact ⟨by go_simp, by go_simp⟩
        | 6, hj => simp at hj; subst hj; exact ⟨by go_simp, by go_simp⟩
        | 7, hj => simp at hj; subst hj; exact ⟨by go_simp, by go_simp⟩
        | j + 8, hj => simp at hj
      · rw [hws]; exact OF.empty _ _ (by simp) (by simp; omega) rfl
      · intro k hk e
        have e1 : w'.heap.size + 1 = k := by cases hk; rfl
        have e2 := (hX.block k e).2
        omega
    · rw [hws]; exact ⟨⟨by go_simp, by go_simp, by go_simp, by go_simp, by go_simp, by go_simp, by go_simp, by go_simp⟩, fun o => by go_simp⟩
  rw [← hB17] at HRA ⊢
  clear hws hb hk hT hsz HX hB17 HCN HS
  go_loopw [6, 18] (fun q6 u wr => ∃ (k m c : Nat) (q : Option Addr) (ys : List Nat) (q0 : Option Addr) (c0 : Nat), k + m = N ∧ q6 = .int .i64 (m : Int) ∧ u = .slice q ys.length c ∧ ys.length = k ∧ Hid (BsAt B wr b17 s p (RK k) q0 c0 q c ys) ∧ Hid (ys.map (cn .f32) = LK k) ∧ Hid (OK k = true) ∧ Below B ws wr) (fun q6 _ _ => (intOf q6).toNat)
  case atStart => exact ⟨0, N, 0, _, [], q0, c0, Nat.zero_add _, by rw [HNN.out, HMX.out], rfl, rfl, by show BsAt _ _ _ _ _ _ _ _ _ _ _; rw [HR0.out.1]; exact HRA.out, by show _ = _; rw [HR0.out.2.2]; rfl, HR0.out.2.1, Below.refl _ _⟩
  case round =>
    obtain ⟨k, m, c, q, ys, q0, c0, hkm, rfl, rfl, hyl, HAT, HL, HOK, hB⟩ := hrel
    have hzr := hB.size
    have hBr : Below w.heap.size w wr := HBS.out.1.trans (hB.mono (by omega))
    obtain ⟨⟨r0, r1, r2, r3, r4, r5, r6, r7⟩, rf⟩ := HR8.out
    have hl3 : w.heap.size + 1 < B := by omega
    have r0 := (hB.cell (p := ⟨w.heap.size + 1, 0, none⟩) hl3).trans r0
    have r1 := (hB.cell (p := ⟨w.heap.size + 1, 1, none⟩) hl3).trans r1
    have r2 := (hB.cell (p := ⟨w.heap.size + 1, 2, none⟩) hl3).trans r2
    have r3 := (hB.cell (p := ⟨w.heap.size + 1, 3, none⟩) hl3).trans r3
    have r4 := (hB.cell (p := ⟨w.heap.size + 1, 4, none⟩) hl3).trans r4
    have r5 := (hB.cell (p := ⟨w.heap.size + 1, 5, none⟩) hl3).trans r5
    have r6 := (hB.cell (p := ⟨w.heap.size + 1, 6, none⟩) hl3).trans r6
    have r7 := (hB.cell (p := ⟨w.heap.size + 1, 7, none⟩) hl3).trans r7
    have rf : ∀ o, wr.frozen? ⟨w.heap.size + 1, o, none⟩ = false := fun o => (hB.frozen (p := ⟨w.heap.size + 1, o, none⟩) hl3).trans (rf o)
    have g0 := (HAT.out.1.1 0 _ rfl).1
    have g1 := (HAT.out.1.1 1 _ rfl).1
    have g2 := (HAT.out.1.1 2 _ rfl).1
    have g3 := (HAT.out.1.1 3 _ rfl).1
    have g4 := (HAT.out.1.1 4 _ rfl).1
    have g5 := (HAT.out.1.1 5 _ rfl).1
    have g6 := (HAT.out.1.1 6 _ rfl).1
    have g7 := (HAT.out.1.1 7 _ rfl).1
    have f0 := (HAT.out.1.1 0 _ rfl).2
    have f1 := (HAT.out.1.1 1 _ rfl).2
    have f2 := (HAT.out.1.1 2 _ rfl).2
    have f3 := (HAT.out.1.1 3 _ rfl).2
    have f4 := (HAT.out.1.1 4 _ rfl).2
    have f5 := (HAT.out.1.1 5 _ rfl).2
    have f6 := (HAT.out.1.1 6 _ rfl).2
    have f7 := (HAT.out.1.1 7 _ rfl).2
    have HBAT : Hid (BarAt s p (.slice q0 (RK k).length c0) wr b17 0) := barAt_owned HAT.out.1.1
    have hb17 : b17 < wr.heap.size := World.block_lt_of_cell? _ _ g0
    have hbB : B ≤ b17 := HAT.out.1.2
    have hT : Trk wr [b17, w.heap.size + 1] := ((Trk.nil wr).more (by omega)).more hb17
    have HZ' : Hid (B ≤ wr.heap.size) := by show _ ≤ _; omega
    have HYL := Lib.hid hyl
    have HBr := Lib.hid hBr
    have HBW := Lib.hid hB
    have hkN : k ≤ N := by omega
    have hm0 : 0 ≤ (m : Int) := by omega
    by_cases hlt : 0 < m
    · have hlti : (m : Int) > 0 := by omega
      have hw1 : IntKind.i64.wrap ((m : Int) - 1) = ((m - 1 : Nat) : Int) := by rw [IntWalk.i64_in _ (by have := HNN.out; omega)]; omega
      have hwb : b17 < wr.heap.size := hb17
      have HFS : Hid (FS wr (.slice q0 (RK k).length c0) (RK k)) := OF.fs HAT.out.2.1
      have HMK : Hid (∀ w', Below wr.heap.size wr w' → Calls Try.prog 90 #[.pointer (some ⟨b17, 0, none⟩), .float .f32 l, .float .f32 r, .bool b1, .bool b2, .float .f32 t] w' (BBE w' s p (RK (k + 1)) (MK k))) := fun w' h => HM.out k _ b17 0 w' HOK.out (bar_later HBAT.out h hwb) (HFS.out.later h)
      rcases hmk : MK k
      · rw [hmk] at HMK
        have HE : Hid (B0 = false) := by
          show _ = _
          rw [HU.out]
          exact HF.out.2.2.2.1 (k + 1) N (by rw [HF.out.1 k, hmk]; simp) (by omega)
        clear hmk hB hyl hzr hb17
        go_wp2_with (first | (with_reducible refine at_list ?_; refine wpList_fop rfl rfl rfl rfl rfl ?_; intro r n hr0; have hr := hr0 _ _ (by first | with_reducible assumption | exact rfl) (by first | with_reducible assumption | exact rfl); clear hr0) | (with_reducible refine at_list ?_; refine wpList_neg rfl rfl rfl ?_; intro r hr0; have hr := hr0 _ (by first | with_reducible assumption | exact rfl); clear hr0) | (with_reducible refine at_list ?_; refine wpList_fop_g rfl rfl rfl rfl rfl ?_; intro r n hr0; have hr := hr0 _ _ (by first | with_reducible assumption | exact rfl) (by first | with_reducible assumption | exact rfl); clear hr0) | (with_reducible refine at_list ?_; refine wpList_wide_g rfl rfl Try.underlying22 Try.underlying40 rfl ?_; intro r n hr0; have hr := hr0 _ (by first | with_reducible assumption | exact rfl); clear hr0) | (with_reducible refine at_list ?_; refine wpList_wide rfl rfl rfl Try.underlying22 Try.underlying40 ?_; intro r n hr0; have hr := hr0 _ (by first | with_reducible assumption | exact rfl); clear hr0) | (go_at_call 90; refine stop_here ?_) | (go_at_call 89; refine (l03Can_any _ _ _ _ _ _ _ _ _ _ (by assumption) (by assumption)).mono ?_; rintro e w' ⟨rfl, n, rfl⟩) | (go_at_call 81; refine (l00In_any _ _ _ _).mono ?_; rintro e w' ⟨rfl, n, rfl⟩) | (go_at_call 73; refine (l03Melted_any _ _ _ _ _ _ _ (by assumption) (by assumption)).mono ?_; rintro e w' ⟨r, rfl, hr, n, rfl⟩) | (go_at_call 76; refine (l02Finite_any _ _ _ (by assumption)).mono ?_; rintro e w' ⟨rfl, n, rfl⟩))
        unfold Stop
        refine (HMK.out _ (by (repeat (first | (with_reducible exact Below.refl _ _) | (with_reducible assumption) | (with_reducible refine below_then ?_ (by assumption)) | (with_reducible refine Below.trans ?_ (by assumption)) | (with_reducible refine below_drewN ?_ _) | (with_reducible apply Below.drew) | (with_reducible refine below_alloc ?_ _) | refine Below.setCell ?_ (by first | (simp; done) | (simp; omega)) _)))).mono ?_
        rintro e w' hbb
        obtain ⟨u2, rfl, hb, hO⟩ := bbe_no hbb rfl
        clear hbb
        obtain ⟨q9, c9, rfl⟩ := OF.shape hO
        obtain ⟨hT, hk⟩ := bv_next hb (by (repeat (with_reducible first | assumption | apply Trk.alloc | apply Trk.setCell | apply Trk.drewN | apply Trk.drew | exact Trk.nil _))); simp only [SameOn, World.size_alloc, World.size_setCell, World.size_drew, size_drewN', and_true] at hk; have hsz := Below.size hb; (try simp only [World.size_alloc, World.size_setCell, World.size_drew, size_drewN'] at hsz)
        clear hO
        go_wp2_with (first | (with_reducible refine at_list ?_; refine wpList_fop rfl rfl rfl rfl rfl ?_; intro r n hr0; have hr := hr0 _ _ (by first | with_reducible assumption | exact rfl) (by first | with_reducible assumption | exact rfl); clear hr0) | (with_reducible refine at_list ?_; refine wpList_neg rfl rfl rfl ?_; intro r hr0; have hr := hr0 _ (by first | with_reducible assumption | exact rfl); clear hr0) | (with_reducible refine at_list ?_; refine wpList_fop_g rfl rfl rfl rfl rfl ?_; intro r n hr0; have hr := hr0 _ _ (by first | with_reducible assumption | exact rfl) (by first | with_reducible assumption | exact rfl); clear hr0) | (with_reducible refine at_list ?_; refine wpList_wide_g rfl rfl Try.underlying22 Try.underlying40 rfl ?_; intro r n hr0; have hr := hr0 _ (by first | with_reducible assumption | exact rfl); clear hr0) | (with_reducible refine at_list ?_; refine wpList_wide rfl rfl rfl Try.underlying22 Try.underlying40 ?_; intro r n hr0; have hr := hr0 _ (by first | with_reducible assumption | exact rfl); clear hr0) | (go_at_call 89; refine (l03Can_any _ _ _ _ _ _ _ _ _ _ (by assumption) (by assumption)).mono ?_; rintro e w' ⟨rfl, n, rfl⟩) | (go_at_call 81; refine (l00In_any _ _ _ _).mono ?_; rintro e w' ⟨rfl, n, rfl⟩) | (go_at_call 73; refine (l03Melted_any _ _ _ _ _ _ _ (by assumption) (by assumption)).mono ?_; rintro e w' ⟨r, rfl, hr, n, rfl⟩) | (go_at_call 76; refine (l02Finite_any _ _ _ (by assumption)).mono ?_; rintro e w' ⟨rfl, n, rfl⟩))
        refine bodyPost_ret (v := .tuple #[.agg #[.float .f32 0, .float .f32 0, .float .f32 0, .float .f32 0, .float .f32 0, .float .f32 0, .float .f32 0, .slice none 0 0], .slice none 0 0, .bool false]) (by simp [results, Try.results43, go_sem, *]) rfl ?_
        exact bbl_no rfl (by (repeat (first | (with_reducible exact Below.refl _ _) | (with_reducible assumption) | (with_reducible refine below_then ?_ (by assumption)) | (with_reducible refine Below.trans ?_ (by assumption)) | (with_reducible refine below_drewN ?_ _) | (with_reducible apply Below.drew) | (with_reducible refine below_alloc ?_ _) | refine Below.setCell ?_ (by first | (simp; done) | (simp; omega)) _))) HE.out
      · rw [hmk] at HMK
        have HHK : Hid (∀ (u : Value) (b o : Nat) (w : World), BarAt s p u w b o → FS w u (RK (k + 1)) → Calls Try.prog 73 #[.pointer (some ⟨b, o, none⟩)] w (RF w .f32 (HT (k + 1)))) := HHT.out (k + 1)
        have HO1 : Hid (OK (k + 1) = true) := by show _ = _; rw [HF.out.1 k, HOK.out, hmk]; rfl
        have HL1 : Hid (LK (k + 1) = LK k ++ [HT (k + 1)]) := HF.out.2.1 k
        obtain ⟨R1, hR1⟩ : ∃ R1, R1 = RK (k + 1) := ⟨_, rfl⟩
        rw [← hR1] at HMK HHK
        have HR1 := Lib.hid hR1
        generalize HT (k + 1) = H1 at HHK HL1
        have hyn : ys.length ≤ 128 := by have := HNN.out; omega
        have HYN := Lib.hid hyn
        clear hR1 hmk hB hyl hzr hb17 hyn
        go_wp2_with (first | (with_reducible refine at_list ?_; refine wpList_fop rfl rfl rfl rfl rfl ?_; intro r n hr0; have hr := hr0 _ _ (by first | with_reducible assumption | exact rfl) (by first | with_reducible assumption | exact rfl); clear hr0) | (with_reducible refine at_list ?_; refine wpList_neg rfl rfl rfl ?_; intro r hr0; have hr := hr0 _ (by first | with_reducible assumption | exact rfl); clear hr0) | (with_reducible refine at_list ?_; refine wpList_fop_g rfl rfl rfl rfl rfl ?_; intro r n hr0; have hr := hr0 _ _ (by first | with_reducible assumption | exact rfl) (by first | with_reducible assumption | exact rfl); clear hr0) | (with_reducible refine at_list ?_; refine wpList_wide_g rfl rfl Try.underlying22 Try.underlying40 rfl ?_; intro r n hr0; have hr := hr0 _ (by first | with_reducible assumption | exact rfl); clear hr0) | (with_reducible refine at_list ?_; refine wpList_wide rfl rfl rfl Try.underlying22 Try.underlying40 ?_; intro r n hr0; have hr := hr0 _ (by first | with_reducible assumption | exact rfl); clear hr0) | (go_at_call 90; refine stop_here ?_) | (go_at_call 89; refine (l03Can_any _ _ _ _ _ _ _ _ _ _ (by assumption) (by assumption)).mono ?_; rintro e w' ⟨rfl, n, rfl⟩) | (go_at_call 81; refine (l00In_any _ _ _ _).mono ?_; rintro e w' ⟨rfl, n, rfl⟩) | (go_at_call 73; refine (l03Melted_any _ _ _ _ _ _ _ (by assumption) (by assumption)).mono ?_; rintro e w' ⟨r, rfl, hr, n, rfl⟩) | (go_at_call 76; refine (l02Finite_any _ _ _ (by assumption)).mono ?_; rintro e w' ⟨rfl, n, rfl⟩))
        unfold Stop
        refine (HMK.out _ (by (repeat (first | (with_reducible exact Below.refl _ _) | (with_reducible assumption) | (with_reducible refine below_then ?_ (by assumption)) | (with_reducible refine Below.trans ?_ (by assumption)) | (with_reducible refine below_drewN ?_ _) | (with_reducible apply Below.drew) | (with_reducible refine below_alloc ?_ _) | refine Below.setCell ?_ (by first | (simp; done) | (simp; omega)) _)))).mono ?_
        rintro e w' hbb
        obtain ⟨u2, rfl, hb, hO⟩ := bbe_yes hbb rfl
        clear hbb
        obtain ⟨q1, c1, rfl⟩ := OF.shape hO
        obtain ⟨hT, hk⟩ := bv_next hb (by (repeat (with_reducible first | assumption | apply Trk.alloc | apply Trk.setCell | apply Trk.drewN | apply Trk.drew | exact Trk.nil _))); simp only [SameOn, World.size_alloc, World.size_setCell, World.size_drew, size_drewN', and_true] at hk; have hsz := Below.size hb; (try simp only [World.size_alloc, World.size_setCell, World.size_drew, size_drewN'] at hsz)
        have HX := Lib.hid hO
        have HB1 := Lib.hid hb
        clear hO
        rename World => w1
        go_wp2_with (first | (with_reducible refine at_list ?_; refine wpList_fop rfl rfl rfl rfl rfl ?_; intro r n hr0; have hr := hr0 _ _ (by first | with_reducible assumption | exact rfl) (by first | with_reducible assumption | exact rfl); clear hr0) | (with_reducible refine at_list ?_; refine wpList_neg rfl rfl rfl ?_; intro r hr0; have hr := hr0 _ (by first | with_reducible assumption | exact rfl); clear hr0) | (with_reducible refine at_list ?_; refine wpList_fop_g rfl rfl rfl rfl rfl ?_; intro r n hr0; have hr := hr0 _ _ (by first | with_reducible assumption | exact rfl) (by first | with_reducible assumption | exact rfl); clear hr0) | (with_reducible refine at_list ?_; refine wpList_wide_g rfl rfl Try.underlying22 Try.underlying40 rfl ?_; intro r n hr0; have hr := hr0 _ (by first | with_reducible assumption | exact rfl); clear hr0) | (with_reducible refine at_list ?_; refine wpList_wide rfl rfl rfl Try.underlying22 Try.underlying40 ?_; intro r n hr0; have hr := hr0 _ (by first | with_reducible assumption | exact rfl); clear hr0) | (go_at_call 73; refine stop_here ?_) | (go_at_call 89; refine (l03Can_any _ _ _ _ _ _ _ _ _ _ (by assumption) (by assumption)).mono ?_; rintro e w' ⟨rfl, n, rfl⟩) | (go_at_call 81; refine (l00In_any _ _ _ _).mono ?_; rintro e w' ⟨rfl, n, rfl⟩) | (go_at_call 73; refine (l03Melted_any _ _ _ _ _ _ _ (by assumption) (by assumption)).mono ?_; rintro e w' ⟨r, rfl, hr, n, rfl⟩) | (go_at_call 76; refine (l02Finite_any _ _ _ (by assumption)).mono ?_; rintro e w' ⟨rfl, n, rfl⟩))
        unfold Stop
        refine calls_named ?_
        intro w3 hw3
        have HNE : Hid (∀ kk, (Value.slice q ys.length c).ownBlock = some kk → kk ≠ b17) := HAT.out.2.2.2.1
        have HGL : Hid (∀ kk, (Value.slice q ys.length c).ownBlock = some kk → kk < wr.heap.size) := fun kk hkk => (HAT.out.2.2.1.block kk hkk).2
        have hz1 := HB1.out.size
        obtain ⟨HA3, HW3, HO3, HB3, HZ3⟩ : Hid (OF wr.heap.size w3 (.slice q1 R1.length c1) R1) ∧ Hid (owned w3 b17 (barC s p (.slice q1 R1.length c1))) ∧ Hid (OF B w3 (.slice q ys.length c) ys) ∧ Hid (Below B wr w3) ∧ Hid (wr.heap.size ≤ w3.heap.size) := by
          have hal : Below wr.heap.size wr w1 := HB1.out
          have e3 : w3 = (w1.setCells b17 0 (barC s p (.slice q1 R1.length c1))).alloc (.cells #[.float .f32 s.a, .float .f32 s.b, .float .f32 s.c, .float .f32 s.d, .float .f32 s.p, .float .f32 s.l, .float .f32 p, .slice q1 R1.length c1] 32) := hw3
          have hgs := grown_setCells b17 (barC s p (.slice q1 R1.length c1)) 0 w1
          have hbe : Below (w1.setCells b17 0 (barC s p (.slice q1 R1.length c1))).heap.size (w1.setCells b17 0 (barC s p (.slice q1 R1.length c1))) ((w1.setCells b17 0 (barC s p (.slice q1 R1.length c1))).alloc (.cells #[.float .f32 s.a, .float .f32 s.b, .float .f32 s.c, .float .f32 s.d, .float .f32 s.p, .float .f32 s.l, .float .f32 p, .slice q1 R1.length c1] 32)) := (Below.refl _ _).alloc (Nat.le_refl _) _
          have hzs := hgs.size
          have hbz := HZ'.out
          rw [e3]
          refine ⟨(HX.out.kept hgs ?_).later hbe, (barC_stored (HAT.out.1.1.later hal)).later hbe, ((HAT.out.2.2.1.later hal).kept hgs ?_).later hbe, ((hal.mono hbz).grown hgs (by omega) (fun kk hkk => by cases hkk; exact hbB)).alloc (by omega) _, by have := hbe.size; show _ ≤ _; omega⟩
          · cases hu : (Value.slice q1 R1.length c1).ownBlock with
            | none => exact .inl rfl
            | some kk => exact .inr fun e => by have h8 := (HX.out.block kk hu).1; cases e; omega
          · cases hu : (Value.slice q ys.length c).ownBlock with
            | none => exact .inl rfl
            | some kk => exact .inr fun e => HNE.out kk hu (by simpa using e)
        have hb173 : b17 < w3.heap.size := Nat.lt_of_lt_of_le hwb HZ3.out
        clear hw3 hb hT hk hsz g0 g1 g2 g3 g4 g5 g6 g7 f0 f1 f2 f3 f4 f5 f6 f7 HB1 hz1
        refine (HHK.out _ b17 0 w3 (barAt_owned HW3.out) (OF.fs HA3.out)).mono ?_
        rintro e w' ⟨r3, rfl, hr3, n3, rfl⟩
        have HR3 := Lib.hid hr3
        clear hr3
        have HB4 : Hid (Below w3.heap.size w3 (w3.drewN n3)) := below_draws _
        go_wp2_with (first | (with_reducible refine at_list ?_; refine wpList_fop rfl rfl rfl rfl rfl ?_; intro r n hr0; have hr := hr0 _ _ (by first | with_reducible assumption | exact rfl) (by first | with_reducible assumption | exact rfl); clear hr0) | (with_reducible refine at_list ?_; refine wpList_neg rfl rfl rfl ?_; intro r hr0; have hr := hr0 _ (by first | with_reducible assumption | exact rfl); clear hr0) | (with_reducible refine at_list ?_; refine wpList_fop_g rfl rfl rfl rfl rfl ?_; intro r n hr0; have hr := hr0 _ _ (by first | with_reducible assumption | exact rfl) (by first | with_reducible assumption | exact rfl); clear hr0) | (with_reducible refine at_list ?_; refine wpList_wide_g rfl rfl Try.underlying22 Try.underlying40 rfl ?_; intro r n hr0; have hr := hr0 _ (by first | with_reducible assumption | exact rfl); clear hr0) | (with_reducible refine at_list ?_; refine wpList_wide rfl rfl rfl Try.underlying22 Try.underlying40 ?_; intro r n hr0; have hr := hr0 _ (by first | with_reducible assumption | exact rfl); clear hr0) | (at_builtin; refine stop_here ?_) | (go_at_call 89; refine (l03Can_any _ _ _ _ _ _ _ _ _ _ (by assumption) (by assumption)).mono ?_; rintro e w' ⟨rfl, n, rfl⟩) | (go_at_call 81; refine (l00In_any _ _ _ _).mono ?_; rintro e w' ⟨rfl, n, rfl⟩) | (go_at_call 73; refine (l03Melted_any _ _ _ _ _ _ _ (by assumption) (by assumption)).mono ?_; rintro e w' ⟨r, rfl, hr, n, rfl⟩) | (go_at_call 76; refine (l02Finite_any _ _ _ (by assumption)).mono ?_; rintro e w' ⟨rfl, n, rfl⟩))
        unfold Stop
        apply wpList_appQ (B := B) (xs := ys) (v := .slice q ys.length c) (r := r3)
        case hg => rfl
        case ho => rfl
        case hs => rfl
        case hx => rfl
        case hO => exact (HO3.out.later HB4.out).alloc _
        case hc => go_simp <;> exact rfl
        case hn => have := HYN.out; omega
        case hB => have h1 := HB4.out.size; have h2 := HZ3.out; have h3 := HZ'.out; simp at h1 ⊢; omega
        intro qa c2 w9 hO9 hB9 hg9 hblk
        have hz4 := HB4.out.size
        have HRN : Hid (BsAt B w9 b17 s p R1 q1 c1 qa c2 (ys ++ [r3])) := by
          have e9 : (ys ++ [r3]).length = ys.length + 1 := by simp
          refine bsAt_app (W := wr.heap.size) hg9 (((HW3.out.later HB4.out).later ((Below.refl _ _).alloc (Nat.le_refl _) _))) hbB HNE.out ((HA3.out.later HB4.out).later ((Below.refl _ _).alloc (Nat.le_refl _) _)) HZ'.out HGL.out (by rw [e9]; exact hO9) (by rw [e9]; exact hblk)
        have HB9 : Hid (Below B ws w9) := (HBW.out.trans (HB3.out.trans ((HB4.out.mono (Nat.le_trans HZ'.out HZ3.out)).alloc (by have := HZ'.out; have := HZ3.out; simp at hz4 ⊢; omega) _))).trans hB9
        have HMAP : Hid ((ys ++ [r3]).map (cn .f32) = LK (k + 1)) := by show _ = _; rw [HL1.out, List.map_append, HL.out]; simp [HR3.out]
        rw [HR1.out] at HRN
        clear hO9 hB9 hg9 hblk hz4
        go_wp2_with (first | (with_reducible refine at_list ?_; refine wpList_fop rfl rfl rfl rfl rfl ?_; intro r n hr0; have hr := hr0 _ _ (by first | with_reducible assumption | exact rfl) (by first | with_reducible assumption | exact rfl); clear hr0) | (with_reducible refine at_list ?_; refine wpList_neg rfl rfl rfl ?_; intro r hr0; have hr := hr0 _ (by first | with_reducible assumption | exact rfl); clear hr0) | (with_reducible refine at_list ?_; refine wpList_fop_g rfl rfl rfl rfl rfl ?_; intro r n hr0; have hr := hr0 _ _ (by first | with_reducible assumption | exact rfl) (by first | with_reducible assumption | exact rfl); clear hr0) | (with_reducible refine at_list ?_; refine wpList_wide_g rfl rfl Try.underlying22 Try.underlying40 rfl ?_; intro r n hr0; have hr := hr0 _ (by first | with_reducible assumption | exact rfl); clear hr0) | (with_reducible refine at_list ?_; refine wpList_wide rfl rfl rfl Try.underlying22 Try.underlying40 ?_; intro r n hr0; have hr := hr0 _ (by first | with_reducible assumption | exact rfl); clear hr0) | (go_at_call 89; refine (l03Can_any _ _ _ _ _ _ _ _ _ _ (by assumption) (by assumption)).mono ?_; rintro e w' ⟨rfl, n, rfl⟩) | (go_at_call 81; refine (l00In_any _ _ _ _).mono ?_; rintro e w' ⟨rfl, n, rfl⟩) | (go_at_call 73; refine (l03Melted_any _ _ _ _ _ _ _ (by assumption) (by assumption)).mono ?_; rintro e w' ⟨r, rfl, hr, n, rfl⟩) | (go_at_call 76; refine (l02Finite_any _ _ _ (by assumption)).mono ?_; rintro e w' ⟨rfl, n, rfl⟩))
        go_roundw
        case rel => exact ⟨k + 1, m - 1, c2, qa, ys ++ [r3], q1, c1, by omega, by first | rfl | go_num, by simp, by simp [HYL.out], HRN.out, HMAP.out, HO1.out, HB9.out⟩
        case measure => simp [intOf]; omega
        all_goals first | kernel_rfl | rfl
    · have hlti : ¬ (m : Int) > 0 := by omega
      have hke : k = N := by omega
      subst hke
      have HUK : Hid (UK k = finC (ys.map (cn .f32))) := by show _ = _; rw [HF.out.2.2.2.2 k, HOK.out, HL.out]; rfl
      have HFN := Lib.hid (fun w h => l02Finite_any ys (.slice q ys.length c) w h)
      have HFC : Hid ((!ys.any fun x => !fin .f32 (cn .f32 x)) = B0) := by
        show _ = _
        rw [HU.out, HUK.out]
        unfold finC
        rw [List.any_map]; rfl
      rw [HFC.out] at HFN
      have HX9 : Hid (OF B (wr.setCells (w.heap.size + 1) 0 [.float .f32 s.a, .float .f32 s.b, .float .f32 s.c, .float .f32 s.d, .float .f32 s.p, .float .f32 s.l, .float .f32 p, .slice q0 (RK k).length c0]) (.slice q0 (RK k).length c0) (RK k)) := by
        refine HAT.out.2.1.kept (grown_setCells _ _ _ _) ?_
        cases hu : (Value.slice q0 (RK k).length c0).ownBlock with
        | none => exact .inl rfl
        | some kk =>
          refine .inr fun e => ?_
          have h9 := (HAT.out.2.1.block kk hu).1
          cases e
          omega
      have HO9 : Hid (OF B (wr.setCells (w.heap.size + 1) 0 [.float .f32 s.a, .float .f32 s.b, .float .f32 s.c, .float .f32 s.d, .float .f32 s.p, .float .f32 s.l, .float .f32 p, .slice q0 (RK k).length c0]) (.slice q ys.length c) ys) := by
        refine HAT.out.2.2.1.kept (grown_setCells _ _ _ _) ?_
        cases hu : (Value.slice q ys.length c).ownBlock with
        | none => exact .inl rfl
        | some kk =>
          refine .inr fun e => ?_
          have h9 := (HAT.out.2.2.1.block kk hu).1
          cases e
          omega
      have HFS : Hid (FS wr (.slice q ys.length c) ys) := OF.fs HAT.out.2.2.1
      clear hB hyl hzr hb17
      rcases hb0 : B0
      · rw [hb0] at HFN
        subst hb0
        go_wp2_with (first | (with_reducible refine at_list ?_; refine wpList_fop rfl rfl rfl rfl rfl ?_; intro r n hr0; have hr := hr0 _ _ (by first | with_reducible assumption | exact rfl) (by first | with_reducible assumption | exact rfl); clear hr0) | (with_reducible refine at_list ?_; refine wpList_neg rfl rfl rfl ?_; intro r hr0; have hr := hr0 _ (by first | with_reducible assumption | exact rfl); clear hr0) | (with_reducible refine at_list ?_; refine wpList_fop_g rfl rfl rfl rfl rfl ?_; intro r n hr0; have hr := hr0 _ _ (by first | with_reducible assumption | exact rfl) (by first | with_reducible assumption | exact rfl); clear hr0) | (with_reducible refine at_list ?_; refine wpList_wide_g rfl rfl Try.underlying22 Try.underlying40 rfl ?_; intro r n hr0; have hr := hr0 _ (by first | with_reducible assumption | exact rfl); clear hr0) | (with_reducible refine at_list ?_; refine wpList_wide rfl rfl rfl Try.underlying22 Try.underlying40 ?_; intro r n hr0; have hr := hr0 _ (by first | with_reducible assumption | exact rfl); clear hr0) | (go_at_call 89; refine (l03Can_any _ _ _ _ _ _ _ _ _ _ (by assumption) (by assumption)).mono ?_; rintro e w' ⟨rfl, n, rfl⟩) | (go_at_call 81; refine (l00In_any _ _ _ _).mono ?_; rintro e w' ⟨rfl, n, rfl⟩) | (go_at_call 73; refine (l03Melted_any _ _ _ _ _ _ _ (by assumption) (by assumption)).mono ?_; rintro e w' ⟨r, rfl, hr, n, rfl⟩) | (go_at_call 76; refine ((HFN.out _ (HFS.out.later (by (repeat (first | (with_reducible exact Below.refl _ _) | (with_reducible assumption) | (with_reducible refine below_then ?_ (by assumption)) | (with_reducible refine Below.trans ?_ (by assumption)) | (with_reducible refine below_drewN ?_ _) | (with_reducible apply Below.drew) | (with_reducible refine below_alloc ?_ _) | refine Below.setCell ?_ (by first | (simp; done) | (simp; omega)) _))))) ).mono ?_; rintro e w' ⟨rfl, n, rfl⟩))
        refine bodyPost_ret (v := .tuple #[.agg #[.float .f32 0, .float .f32 0, .float .f32 0, .float .f32 0, .float .f32 0, .float .f32 0, .float .f32 0, .slice none 0 0], .slice none 0 0, .bool false]) (by simp [results, Try.results43, go_sem, *]) rfl ?_
        exact bbl_no rfl (by (repeat (first | (with_reducible exact Below.refl _ _) | (with_reducible assumption) | (with_reducible refine below_then ?_ (by assumption)) | (with_reducible refine Below.trans ?_ (by assumption)) | (with_reducible refine below_drewN ?_ _) | (with_reducible apply Below.drew) | (with_reducible refine below_alloc ?_ _) | refine Below.setCell ?_ (by first | (simp; done) | (simp; omega)) _))) rfl
      · rw [hb0] at HFN
        subst hb0
        go_wp2_with (first | (with_reducible refine at_list ?_; refine wpList_fop rfl rfl rfl rfl rfl ?_; intro r n hr0; have hr := hr0 _ _ (by first | with_reducible assumption | exact rfl) (by first | with_reducible assumption | exact rfl); clear hr0) | (with_reducible refine at_list ?_; refine wpList_neg rfl rfl rfl ?_; intro r hr0; have hr := hr0 _ (by first | with_reducible assumption | exact rfl); clear hr0) | (with_reducible refine at_list ?_; refine wpList_fop_g rfl rfl rfl rfl rfl ?_; intro r n hr0; have hr := hr0 _ _ (by first | with_reducible assumption | exact rfl) (by first | with_reducible assumption | exact rfl); clear hr0) | (with_reducible refine at_list ?_; refine wpList_wide_g rfl rfl Try.underlying22 Try.underlying40 rfl ?_; intro r n hr0; have hr := hr0 _ (by first | with_reducible assumption | exact rfl); clear hr0) | (with_reducible refine at_list ?_; refine wpList_wide rfl rfl rfl Try.underlying22 Try.underlying40 ?_; intro r n hr0; have hr := hr0 _ (by first | with_reducible assumption | exact rfl); clear hr0) | (go_at_call 89; refine (l03Can_any _ _ _ _ _ _ _ _ _ _ (by assumption) (by assumption)).mono ?_; rintro e w' ⟨rfl, n, rfl⟩) | (go_at_call 81; refine (l00In_any _ _ _ _).mono ?_; rintro e w' ⟨rfl, n, rfl⟩) | (go_at_call 73; refine (l03Melted_any _ _ _ _ _ _ _ (by assumption) (by assumption)).mono ?_; rintro e w' ⟨r, rfl, hr, n, rfl⟩) | (go_at_call 76; refine ((HFN.out _ (HFS.out.later (by (repeat (first | (with_reducible exact Below.refl _ _) | (with_reducible assumption) | (with_reducible refine below_then ?_ (by assumption)) | (with_reducible refine Below.trans ?_ (by assumption)) | (with_reducible refine below_drewN ?_ _) | (with_reducible apply Below.drew) | (with_reducible refine below_alloc ?_ _) | refine Below.setCell ?_ (by first | (simp; done) | (simp; omega)) _))))) ).mono ?_; rintro e w' ⟨rfl, n, rfl⟩))
        refine bodyPost_ret (v := .tuple #[.agg #[.float .f32 s.a, .float .f32 s.b, .float .f32 s.c, .float .f32 s.d, .float .f32 s.p, .float .f32 s.l, .float .f32 p, .slice q0 (RK k).length c0], .slice q ys.length c, .bool true]) (by simp [results, Try.results43, go_sem, *]) rfl ?_
        exact ⟨q0, c0, q, c, ys, rfl, by (repeat (first | (with_reducible exact Below.refl _ _) | (with_reducible assumption) | (with_reducible refine below_then ?_ (by assumption)) | (with_reducible refine Below.trans ?_ (by assumption)) | (with_reducible refine below_drewN ?_ _) | (with_reducible apply Below.drew) | (with_reducible refine below_alloc ?_ _) | refine Below.setCell ?_ (by first | (simp; done) | (simp; omega)) _)), OF.base (HX9.out.later (below_drewN (Below.refl _ _) _)) (by omega), .inl ⟨OF.base (OF.later HO9.out (below_drewN (Below.refl _ _) _)) (by omega), HAT.out.2.2.2.2⟩, HL.out⟩
end Go.Proofs.Ytjeeflldbhajiaa
