/-
  Draws in a statement whose order Go leaves open; a source made of bytes; bytes handed in. No condition but what each contract says.
-/
import Derived.Test.YtpdpokbjfnnomaaSrc2
import Derived.Test.YtpdpokbjfnnomaaPlanG
set_option linter.unusedSimpArgs false
set_option linter.unusedVariables false
set_option linter.unusedSectionVars false
namespace Go.Proofs.Ytpdpokbjfnnomaa
open Go Go.RowKit
open Go.ChangeShapes Go.WideShapes Go.ChangeAt Go.RowKit Go.Joins
theorem i64_fit {n : Int} (h : -9223372036854775808 ≤ n ∧ n ≤ 9223372036854775807) : IntKind.i64.wrap n = n := by
  simp [IntKind.wrap, IntKind.bits, IntKind.signed]
  omega
def Clm.pick (hi : Int) : Clm := ⟨3, fun _ v => ∃ r, v = .int .i64 r ∧ (0 ≤ hi → 0 ≤ r ∧ r ≤ hi), fun _ _ _ => True, fun _ => ⟨_, 0, rfl, fun h => ⟨by omega, h⟩⟩, fun _ _ _ _ _ _ => trivial, fun h => nomatch h⟩
/-- Only the source has turned. -/
def srcI (W : World) (b K : Nat) (u : World) : Prop := Turn b (b + 1) W u ∧ SrcAt u b K
theorem SrcAt.lt {w : World} {b K : Nat} (h : SrcAt w b K) : b < w.heap.size := by
  obtain ⟨p, n, c, k, s, ⟨h1, _⟩, _⟩ := h
  exact World.block_lt_of_cell? _ _ h1
theorem srcI_kept {W : World} {b K : Nat} (w w' : World) (h : srcI W b K w) (hb : Below w.heap.size w w') : srcI W b K w' := ⟨h.1.trans (Turn.below hb), h.2.later hb h.2.lt⟩
/-- .. and then one cell was written, with a value of a class. -/
def putI (I : World → Prop) (a : Addr) (S : Value → Prop) (u : World) : Prop := ∃ v u0, S v ∧ I u0 ∧ Below (u0.setCell a v).heap.size (u0.setCell a v) u
theorem putI_kept {I : World → Prop} {a : Addr} {S : Value → Prop} (w w' : World) (h : putI I a S w) (hb : Below w.heap.size w w') : putI I a S w' := by
  obtain ⟨v, u0, h0, h1, h2⟩ := h
  exact ⟨v, u0, h0, h1, below_then h2 hb⟩
section
variable {ops : Array Oper} {Q : Exit → Act → World → Prop} {F : World → Prop}
variable {l : List Oper} {cs : List GC} {i : Nat} {ks : List (Nat × (World → Prop))} {a : Act} {o : Oper}
theorem wpG_pick {W : World} {b K : Nat} {n : Int} (hn : 1 ≤ n ∧ n ≤ 1000000000) (hK : K ≤ 900000) (hw : Region.wanted o (yielded ops a.tmps) = true) (he : ∀ w, (execOp a.eval o).run Try.prog w = .ok (.enter 59 #[.pointer (some ⟨b, 0, none⟩), .int .i64 n]) w)
    (h : ∀ r, 0 ≤ r → r ≤ n - 1 → wpG Try.prog ops Q F (srcI W b (K + 2)) l cs (i + 1) [(i, fun _ => True)] (a.put o.dst (.int .i64 r))) : wpG Try.prog ops Q F (srcI W b K) (o :: l) (⟨Clm.pick (n - 1), srcI W b (K + 2), srcI_kept⟩ :: cs) i ks a := by
  refine wpG_turnC (Clm.pick (n - 1)) rfl _ _ hw he (fun w hi hk => ?_) ?_
  · refine (pick_any b K n w hi.2 hK hn).mono ?_
    rintro e w' ⟨r, rfl, ⟨h1, h2⟩, hg, hz, hs⟩
    exact ⟨_, rfl, ⟨hi.1.trans hg, hs⟩, ⟨r, rfl, fun _ => ⟨h1, h2⟩⟩, trivial⟩
  · rintro v ⟨r, rfl, h2⟩
    have := h2 (by omega)
    exact h r this.1 this.2
theorem wpG_set {I : World → Prop} (ad : Addr) (S : Value → Prop) (v : Value) (hI : ∀ w w', I w → Below w.heap.size w w' → I w') (hw : Region.wanted o (yielded ops a.tmps) = true) (hS : S v) (h1 : ∀ w, I w → (execOp a.eval o).run Try.prog w = .ok .skip (w.setCell ad v))
    (h : wpG Try.prog ops Q F (putI I ad S) l cs (i + 1) [(i, fun _ => True)] (a.put o.dst undef)) : wpG Try.prog ops Q F I (o :: l) (GC.turn undef (putI I ad S) (fun _ => True) putI_kept (fun _ _ _ _ => trivial) :: cs) i ks a := by
  simp only [wpG]
  refine ⟨.inl ⟨hw, .inr (.inr (.inl rfl)), fun h => absurd (show (3 : Nat) = 0 from h) (by decide), fun h => absurd (show (3 : Nat) = 4 from h) (by decide), fun h => absurd (show (3 : Nat) = 1 from h) (by decide), fun _ w hi hk => ?_⟩, fun u hu => ?_⟩
  · rw [h1 w hi]; exact ⟨⟨v, w, hS, hi, Below.refl _ _⟩, rfl, trivial⟩
  · have hu : u = undef := hu
    subst hu; exact h
end
theorem l00From_any (p : Option Addr) (n c : Nat) (w : World) (h : BY w.heap.size w p n c) (hn : n ≤ 1048576) : Calls Try.prog 58 #[.slice p n c] w (fun e w' => e = .returned (.pointer (some ⟨w.heap.size, 0, none⟩)) ∧ Below w.heap.size w w' ∧ SrcAt w' w.heap.size 0) := by
  have H := Lib.hid h
  clear h
  go_enter Try.func58, Try.ntmps58
  go_wp2_with (first | (with_reducible refine at_list ?_; refine wpList_fop rfl rfl rfl rfl rfl ?_; intro r n hr0; have hr := hr0 _ _ (by first | with_reducible assumption | exact rfl) (by first | with_reducible assumption | exact rfl); clear hr0) | (with_reducible refine at_list ?_; refine wpList_neg rfl rfl rfl ?_; intro r hr0; have hr := hr0 _ (by first | with_reducible assumption | exact rfl); clear hr0) | (with_reducible refine at_list ?_; refine wpList_fop_g rfl rfl rfl rfl rfl ?_; intro r n hr0; have hr := hr0 _ _ (by first | with_reducible assumption | exact rfl) (by first | with_reducible assumption | exact rfl); clear hr0) | (with_reducible refine at_list ?_; refine wpList_wide_g rfl rfl Try.underlying28 Try.underlying32 rfl ?_; intro r n hr0; have hr := hr0 _ (by first | with_reducible assumption | exact rfl); clear hr0) | (with_reducible refine at_list ?_; refine wpList_wide rfl rfl rfl Try.underlying28 Try.underlying32 ?_; intro r n hr0; have hr := hr0 _ (by first | with_reducible assumption | exact rfl); clear hr0))
  all_goals
    go_ret
    refine ⟨rfl, by (repeat (first | (with_reducible exact Below.refl _ _) | (with_reducible assumption) | (with_reducible refine below_then ?_ (by assumption)) | (with_reducible refine Below.trans ?_ (by assumption)) | (with_reducible refine below_drewN ?_ _) | (with_reducible apply Below.drew) | (with_reducible refine below_alloc ?_ _) | refine Below.setCell ?_ (by first | (simp; done) | (simp; omega)) _)), p, n, c, 0, 0, ⟨by go_simp, by go_simp, by go_simp⟩, ⟨by go_simp, by go_simp⟩, H.out.later (C := w.heap.size) (by (repeat (first | (with_reducible exact Below.refl _ _) | (with_reducible assumption) | (with_reducible refine below_then ?_ (by assumption)) | (with_reducible refine Below.trans ?_ (by assumption)) | (with_reducible refine below_drewN ?_ _) | (with_reducible apply Below.drew) | (with_reducible refine below_alloc ?_ _) | refine Below.setCell ?_ (by first | (simp; done) | (simp; omega)) _))) (Nat.le_refl _), hn, ⟨by omega, by omega⟩, by omega, by omega⟩
set_option maxHeartbeats 4000000 in
theorem B10Cup_any (p : Option Addr) (n c : Nat) (w : World) (h : BY w.heap.size w p n c) (hn : n ≤ 1048576) : Calls Try.prog 36 #[.slice p n c] w (fun e w' => ∃ m h : Int, e = .returned (.agg #[.int .i64 m, .int .i64 h]) ∧ (1 ≤ m ∧ m ≤ 200) ∧ (-50 * m ≤ h ∧ h ≤ 180 * m) ∧ Below w.heap.size w w') := by
  have H := Lib.hid h
  have HN := Lib.hid hn
  clear h hn
  go_enter Try.func36, Try.ntmps36
  go_wp2_with (first | (with_reducible refine at_list ?_; refine wpList_fop rfl rfl rfl rfl rfl ?_; intro r n hr0; have hr := hr0 _ _ (by first | with_reducible assumption | exact rfl) (by first | with_reducible assumption | exact rfl); clear hr0) | (with_reducible refine at_list ?_; refine wpList_neg rfl rfl rfl ?_; intro r hr0; have hr := hr0 _ (by first | with_reducible assumption | exact rfl); clear hr0) | (with_reducible refine at_list ?_; refine wpList_fop_g rfl rfl rfl rfl rfl ?_; intro r n hr0; have hr := hr0 _ _ (by first | with_reducible assumption | exact rfl) (by first | with_reducible assumption | exact rfl); clear hr0) | (with_reducible refine at_list ?_; refine wpList_wide_g rfl rfl Try.underlying28 Try.underlying32 rfl ?_; intro r n hr0; have hr := hr0 _ (by first | with_reducible assumption | exact rfl); clear hr0) | (with_reducible refine at_list ?_; refine wpList_wide rfl rfl rfl Try.underlying28 Try.underlying32 ?_; intro r n hr0; have hr := hr0 _ (by first | with_reducible assumption | exact rfl); clear hr0) | (go_at_call 58; refine (l00From_any _ _ _ _ ((H.out.later (C := w.heap.size) (by (repeat (first | (with_reducible exact Below.refl _ _) | (with_reducible assumption) | (with_reducible refine below_then ?_ (by assumption)) | (with_reducible refine Below.trans ?_ (by assumption)) | (with_reducible refine below_drewN ?_ _) | (with_reducible apply Below.drew) | (with_reducible refine below_alloc ?_ _) | refine Below.setCell ?_ (by first | (simp; done) | (simp; omega)) _))) (Nat.le_refl _)).mono (by first | omega | (simp; done) | (simp; omega))) HN.out).mono ?_; rintro e w' ⟨rfl, hb, hs⟩; (try simp only [World.size_alloc] at hs); have HS := Lib.hid hs; clear hs; obtain ⟨hT, hk⟩ := bv_next hb (by (repeat (with_reducible first | assumption | apply Trk.alloc | apply Trk.setCell | apply Trk.drewN | apply Trk.drew | exact Trk.nil _))); simp only [SameOn, World.size_alloc, World.size_setCell, World.size_drew, size_drewN', and_true] at hk; have hsz := Below.size hb; (try simp only [World.size_alloc, World.size_setCell, World.size_drew, size_drewN'] at hsz)) | (go_at_call 59; refine stop_here ?_))
  unfold Stop
  refine (pick_any (w.heap.size + 1) 0 200 _ HS.out (by omega) (by omega)).mono ?_
  rintro e w2 ⟨r1, rfl, ⟨hr1, hr2⟩, hg, hz, hs⟩
  have HS2 := Lib.hid hs
  have HG := Lib.hid hg
  have HZ := Lib.hid hz
  have hlt := HS2.out.lt
  have hTk : w.heap.size < w'.heap.size := by omega
  have ht0 : w2.cell? ⟨w.heap.size, 0, none⟩ = some (.int .i64 0) ∧ w2.cell? ⟨w.heap.size, 1, none⟩ = some (.int .i64 0) ∧ w2.frozen? ⟨w.heap.size, 0, none⟩ = false ∧ w2.frozen? ⟨w.heap.size, 1, none⟩ = false := by
    have hbl := HG.out.block w.heap.size hTk (.inl (by omega))
    rw [World.cell?_of_block (a := ⟨w.heap.size, 0, none⟩) hbl, World.cell?_of_block (a := ⟨w.heap.size, 1, none⟩) hbl, World.frozen?_of_block (a := ⟨w.heap.size, 0, none⟩) hbl, World.frozen?_of_block (a := ⟨w.heap.size, 1, none⟩) hbl]
    refine ⟨?_, ?_, ?_, ?_⟩ <;> go_simp
  have hB2 : Below w.heap.size w w2 := (show Below w.heap.size w w' by (repeat (first | (with_reducible exact Below.refl _ _) | (with_reducible assumption) | (with_reducible refine below_then ?_ (by assumption)) | (with_reducible refine Below.trans ?_ (by assumption)) | (with_reducible refine below_drewN ?_ _) | (with_reducible apply Below.drew) | (with_reducible refine below_alloc ?_ _) | refine Below.setCell ?_ (by first | (simp; done) | (simp; omega)) _))).trans ⟨HG.out.os, HG.out.tape, HG.out.output, HG.out.size, fun k hk => HG.out.block k (by omega) (.inl (by omega))⟩
  obtain ⟨⟨x0, x1, x2, x3⟩, _⟩ := And.intro ht0 trivial
  clear hs hg hz hb hk hT hsz ht0 HG HZ
  go_wp2_with (first | (with_reducible refine at_list ?_; refine wpList_fop rfl rfl rfl rfl rfl ?_; intro r n hr0; have hr := hr0 _ _ (by first | with_reducible assumption | exact rfl) (by first | with_reducible assumption | exact rfl); clear hr0) | (with_reducible refine at_list ?_; refine wpList_neg rfl rfl rfl ?_; intro r hr0; have hr := hr0 _ (by first | with_reducible assumption | exact rfl); clear hr0) | (with_reducible refine at_list ?_; refine wpList_fop_g rfl rfl rfl rfl rfl ?_; intro r n hr0; have hr := hr0 _ _ (by first | with_reducible assumption | exact rfl) (by first | with_reducible assumption | exact rfl); clear hr0) | (with_reducible refine at_list ?_; refine wpList_wide_g rfl rfl Try.underlying28 Try.underlying32 rfl ?_; intro r n hr0; have hr := hr0 _ (by first | with_reducible assumption | exact rfl); clear hr0) | (with_reducible refine at_list ?_; refine wpList_wide rfl rfl rfl Try.underlying28 Try.underlying32 ?_; intro r n hr0; have hr := hr0 _ (by first | with_reducible assumption | exact rfl); clear hr0))
  refine wp_named ?_
  intro ws hws
  obtain ⟨m, hm⟩ : ∃ m, 1 + r1 = m := ⟨_, rfl⟩
  simp only [hm] at hws ⊢
  have hm1 : 1 ≤ m ∧ m ≤ 200 := by omega
  obtain ⟨cb, hcb⟩ : ∃ cb, w2.heap.size = cb := ⟨_, rfl⟩
  have hs0 : ws.cell? ⟨cb, 0, none⟩ = some (.int .i64 m) ∧ ws.cell? ⟨cb, 1, none⟩ = some (.int .i64 0) ∧ ws.frozen? ⟨cb, 1, none⟩ = false := by rw [hws, ← hcb]; refine ⟨?_, ?_, ?_⟩ <;> go_simp
  have hs1 : ws.cell? ⟨w.heap.size, 0, none⟩ = some (.int .i64 0) ∧ ws.cell? ⟨w.heap.size, 1, none⟩ = some (.int .i64 0) ∧ ws.frozen? ⟨w.heap.size, 0, none⟩ = false ∧ ws.frozen? ⟨w.heap.size, 1, none⟩ = false := by
    rw [hws]
    have hl : w.heap.size < w2.heap.size := by omega
    have hbl := Below.heap_alloc w2 (Obj.cells #[Value.int .i64 m, Value.int .i64 0] 25) w.heap.size hl
    rw [World.cell?_of_block (a := ⟨w.heap.size, 0, none⟩) hbl, World.cell?_of_block (a := ⟨w.heap.size, 1, none⟩) hbl, World.frozen?_of_block (a := ⟨w.heap.size, 0, none⟩) hbl, World.frozen?_of_block (a := ⟨w.heap.size, 1, none⟩) hbl]
    exact ⟨x0, x1, x2, x3⟩
  have HS3 : Hid (SrcAt ws (w.heap.size + 1) 2) := by show SrcAt _ _ _; rw [hws]; exact HS2.out.later ((Below.refl _ _).alloc (Nat.le_refl _) _) hlt
  have hB3 : Below w.heap.size w ws := by rw [hws]; exact hB2.alloc (by omega) _
  have hcl : w.heap.size + 1 < cb := by omega
  simp only [hcb]
  have hczs : cb < ws.heap.size := World.block_lt_of_cell? _ _ hs0.1
  have hck : ∀ u, srcI ws (w.heap.size + 1) 4 u → u.cell? ⟨cb, 0, none⟩ = some (.int .i64 m) ∧ u.cell? ⟨cb, 1, none⟩ = some (.int .i64 0) ∧ u.frozen? ⟨cb, 1, none⟩ = false := by
    intro u hu
    have hbl := hu.1.block cb hczs (.inr (by omega))
    rw [World.cell?_of_block (a := ⟨cb, 0, none⟩) hbl, World.cell?_of_block (a := ⟨cb, 1, none⟩) hbl, World.frozen?_of_block (a := ⟨cb, 1, none⟩) hbl]
    exact hs0
  clear hws hcb hm x0 x1 x2 x3 hB2 hr1 hr2 hlt hTk
  have e1 : IntKind.i64.wrap (230 * m) = 230 * m := i64_fit (by omega)
  have e2 : IntKind.i64.wrap (230 * m + 1) = 230 * m + 1 := i64_fit (by omega)
  have e3 : IntKind.i64.wrap (50 * m) = 50 * m := i64_fit (by omega)
  have e4 : ∀ r, 0 ≤ r → r ≤ 230 * m + 1 - 1 → IntKind.i64.wrap (r - 50 * m) = r - 50 * m := fun r h1 h2 => i64_fit (by omega)
  (apply wp_region_planG (F := (fun u => u.cell? ⟨cb, 0, none⟩ = some (.int .i64 m))) (srcI ws (w.heap.size + 1) 2) srcI_kept; (case hW => exact (by exact ⟨Turn.refl _ _ _, HS3.out⟩)); (case hF0 => exact (by (intro u hu; exact (World.cell?_of_block (a := ⟨cb, 0, none⟩) (hu.1.block cb hczs (.inr (by omega)))).trans hs0.1))); ((apply wpG_det; (case hw => exact rfl); (case hs => (intro cs b h; cases h)); (case h1 => (intro w'; go_simp <;> exact rfl))); apply wpG_norm; (case ha => (simp only [Act.put, List.setIfInBounds_toArray, List.set_cons_zero, List.set_cons_succ]; exact rfl))); ((apply wpG_det; (case hw => exact rfl); (case hs => (intro cs b h; cases h)); (case h1 => (intro w'; go_simp <;> exact rfl))); apply wpG_norm; (case ha => (simp only [Act.put, List.setIfInBounds_toArray, List.set_cons_zero, List.set_cons_succ]; exact rfl))); ((apply wpG_any; (case hw => exact rfl); (case h1 => (intro w' hb; go_simp <;> exact rfl))); apply wpG_norm; (case ha => (simp only [Act.put, List.setIfInBounds_toArray, List.set_cons_zero, List.set_cons_succ]; exact rfl))); ((apply wpG_det; (case hw => exact rfl); (case hs => (intro cs b h; cases h)); (case h1 => (intro w'; go_simp <;> exact rfl))); apply wpG_norm; (case ha => (simp only [Act.put, List.setIfInBounds_toArray, List.set_cons_zero, List.set_cons_succ]; exact rfl))); ((apply wpG_det; (case hw => exact rfl); (case hs => (intro cs b h; cases h)); (case h1 => (intro w'; go_simp <;> exact rfl))); apply wpG_norm; (case ha => (simp only [Act.put, List.setIfInBounds_toArray, List.set_cons_zero, List.set_cons_succ]; exact rfl))); ((apply wpG_pick (n := 230 * m + 1) (K := 2) (by omega) (by omega); (case hw => exact rfl); (case he => (intro w'; go_simp <;> first | exact rfl | exact ⟨rfl, rfl⟩)); intro r2 hr3 hr4; have e5 := e4 r2 hr3 hr4); apply wpG_norm; (case ha => (simp only [Act.put, List.setIfInBounds_toArray, List.set_cons_zero, List.set_cons_succ]; exact rfl))); ((apply wpG_det; (case hw => exact rfl); (case hs => (intro cs b h; cases h)); (case h1 => (intro w'; go_simp <;> exact rfl))); apply wpG_norm; (case ha => (simp only [Act.put, List.setIfInBounds_toArray, List.set_cons_zero, List.set_cons_succ]; exact rfl))); ((apply wpG_any; (case hw => exact rfl); (case h1 => (intro w' hb; go_simp <;> exact rfl))); apply wpG_norm; (case ha => (simp only [Act.put, List.setIfInBounds_toArray, List.set_cons_zero, List.set_cons_succ]; exact rfl))); ((apply wpG_det; (case hw => exact rfl); (case hs => (intro cs b h; cases h)); (case h1 => (intro w'; go_simp <;> exact rfl))); apply wpG_norm; (case ha => (simp only [Act.put, List.setIfInBounds_toArray, List.set_cons_zero, List.set_cons_succ]; exact rfl))); ((apply wpG_det; (case hw => exact rfl); (case hs => (intro cs b h; cases h)); (case h1 => (intro w'; go_simp <;> exact rfl))); apply wpG_norm; (case ha => (simp only [Act.put, List.setIfInBounds_toArray, List.set_cons_zero, List.set_cons_succ]; exact rfl))); ((apply wpG_det; (case hw => exact rfl); (case hs => (intro cs b h; cases h)); (case h1 => (intro w'; go_simp <;> exact rfl))); apply wpG_norm; (case ha => (simp only [Act.put, List.setIfInBounds_toArray, List.set_cons_zero, List.set_cons_succ]; exact rfl))); ((apply wpG_set (I := srcI ws (w.heap.size + 1) (2 + 2)) ⟨cb, 1, none⟩ (fun v => ∃ r, 0 ≤ r ∧ r ≤ 230 * m ∧ v = .int .i64 (r - 50 * m)) (.int .i64 (r2 - 50 * m)) srcI_kept; (case hw => exact rfl); (case hS => exact ⟨r2, hr3, by omega, rfl⟩); (case h1 => (intro u hu; obtain ⟨y0, y1, y2⟩ := hck u hu; go_simp))); apply wpG_norm; (case ha => (simp only [Act.put, List.setIfInBounds_toArray, List.set_cons_zero, List.set_cons_succ]; exact rfl))); refine wpG_nil ?_; intro w' hi hkk)
  rotate_left
  case hFs =>
    repeat' (first | exact trivial | (intro u hu; exact (hck u hu).1) | constructor)
    intro u hu
    obtain ⟨v0, u0, ⟨r, h1, h2, rfl⟩, h3, h4⟩ := (show putI (srcI ws (w.heap.size + 1) (2 + 2)) ⟨cb, 1, none⟩ (fun v => ∃ r, 0 ≤ r ∧ r ≤ 230 * m ∧ v = .int .i64 (r - 50 * m)) u from hu)
    have hy := (hck u0 h3).1
    have hcu : cb < u0.heap.size := World.block_lt_of_cell? _ _ hy
    exact (h4.cell (p := ⟨cb, 0, none⟩) (by simpa using hcu)).trans (by go_simp)
  all_goals (try (first | kernel_rfl | rfl))
  obtain ⟨v0, u0, ⟨r, hr1, hr2, rfl⟩, h3, h4⟩ := hi
  obtain ⟨y0, y1, y2⟩ := hck u0 h3
  have hcu := World.block_lt_of_cell? _ _ y0
  have hcu' : cb < u0.heap.size := hcu
  have hz := h4.size
  simp only [World.size_setCell] at h4 hz
  have z0 : w'.cell? ⟨cb, 0, none⟩ = some (.int .i64 m) := (h4.cell (p := ⟨cb, 0, none⟩) hcu').trans (by go_simp)
  have z1 : w'.cell? ⟨cb, 1, none⟩ = some (.int .i64 (r - 50 * m)) := (h4.cell (p := ⟨cb, 1, none⟩) hcu').trans (by go_simp)
  have hwu : w.heap.size < ws.heap.size := by omega
  have hbl : w'.heap[w.heap.size]? = ws.heap[w.heap.size]? := (h4.block _ (by omega)).trans ((Below.heap_setCell _ _ _ _ (by simp; omega)).trans (h3.1.block _ hwu (.inl (by omega))))
  obtain ⟨q0, q1, q2, q3⟩ := hs1
  have t0 := (World.cell?_of_block (a := ⟨w.heap.size, 0, none⟩) hbl).trans q0
  have t1 := (World.cell?_of_block (a := ⟨w.heap.size, 1, none⟩) hbl).trans q1
  have t2 := (World.frozen?_of_block (a := ⟨w.heap.size, 0, none⟩) hbl).trans q2
  have t3 := (World.frozen?_of_block (a := ⟨w.heap.size, 1, none⟩) hbl).trans q3
  have hB4 : Below w.heap.size w w' := hB3.trans ⟨h4.os.trans h3.1.os, h4.tape.trans h3.1.tape, h4.output.trans h3.1.output, by have := h3.1.size; omega, fun k hk => (h4.block _ (by have := h3.1.size; omega)).trans ((Below.heap_setCell _ _ _ _ (by simp; omega)).trans (h3.1.block _ (by omega) (.inl (by omega))))⟩
  have hne : cb ≠ w.heap.size := by omega
  have hne' : w.heap.size ≠ cb := by omega
  clear h3 h4 hbl y0 y1 y2 hck q0 q1 q2 q3 hs0 hkk e1 e2 e3 e4
  go_wp2_with (first | (with_reducible refine at_list ?_; refine wpList_fop rfl rfl rfl rfl rfl ?_; intro r n hr0; have hr := hr0 _ _ (by first | with_reducible assumption | exact rfl) (by first | with_reducible assumption | exact rfl); clear hr0) | (with_reducible refine at_list ?_; refine wpList_neg rfl rfl rfl ?_; intro r hr0; have hr := hr0 _ (by first | with_reducible assumption | exact rfl); clear hr0) | (with_reducible refine at_list ?_; refine wpList_fop_g rfl rfl rfl rfl rfl ?_; intro r n hr0; have hr := hr0 _ _ (by first | with_reducible assumption | exact rfl) (by first | with_reducible assumption | exact rfl); clear hr0) | (with_reducible refine at_list ?_; refine wpList_wide_g rfl rfl Try.underlying28 Try.underlying32 rfl ?_; intro r n hr0; have hr := hr0 _ (by first | with_reducible assumption | exact rfl); clear hr0) | (with_reducible refine at_list ?_; refine wpList_wide rfl rfl rfl Try.underlying28 Try.underlying32 ?_; intro r n hr0; have hr := hr0 _ (by first | with_reducible assumption | exact rfl); clear hr0))
  refine bodyPost_ret (v := .agg #[.int .i64 m, .int .i64 (r - 50 * m)]) (by simp [results, Try.results36, go_sem, *]) rfl ?_
  exact ⟨m, r - 50 * m, rfl, hm1, ⟨by omega, by omega⟩, by (repeat (first | (with_reducible exact Below.refl _ _) | (with_reducible assumption) | (with_reducible refine below_then ?_ (by assumption)) | (with_reducible refine Below.trans ?_ (by assumption)) | (with_reducible refine below_drewN ?_ _) | (with_reducible apply Below.drew) | (with_reducible refine below_alloc ?_ _) | refine Below.setCell ?_ (by first | (simp; done) | (simp; omega)) _))⟩
end Go.Proofs.Ytpdpokbjfnnomaa
