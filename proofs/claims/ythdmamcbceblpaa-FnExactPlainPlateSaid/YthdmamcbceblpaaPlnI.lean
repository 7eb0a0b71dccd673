/-
  A plain plate: the program's way. No condition but what each contract says.
-/
import Derived.Test.YthdmamcbceblpaaPlnR
set_option linter.unusedSimpArgs false
set_option linter.unusedVariables false
set_option linter.unusedSectionVars false
namespace Go.Proofs.Ythdmamcbceblpaa
open Go Go.RowKit
open Go.ChangeShapes Go.WideShapes Go.ChangeAt Go.RowKit Go.Joins
/-- A value's block lies behind those of the values that it waits for. -/
def ordV (v : Value) (x : List Value) : Prop := ∀ z ∈ x, ∀ k k', z.ownBlock = some k → v.ownBlock = some k' → k < k'
def Clm.ordX (B : Nat) (xs : List Nat) : Clm := ⟨1, fun _ v => ∃ q c, v = .slice q xs.length c, fun x v w => OF B w v xs ∧ ordV v x, fun _ => ⟨_, none, 0, rfl⟩,
  fun x v w w' h hb => ⟨OF.later h.1 hb, h.2⟩, fun h => nomatch h⟩
def PA (B : Nat) (w : World) (P : Pl) (l : Lay) : Prop := P.own B w l ∧ Ap l.p1 l.p2 ∧ Ap l.p1 l.p3 ∧ Ap l.p1 l.p4 ∧ Ap l.p2 l.p3 ∧ Ap l.p2 l.p4 ∧ Ap l.p3 l.p4
theorem PA.later {B : Nat} {w w' : World} {P : Pl} {l : Lay} (h : PA B w P l) (hb : Below w.heap.size w w') : PA B w' P l := ⟨h.1.later hb, h.2⟩
theorem PA.px {B B' : Nat} {w : World} {P : Pl} {l : Lay} (h : PA B w P l) (hB : B' ≤ B) : PX B' w.heap.size w P l := PX.mk' (h.1.base hB) h.2.1 h.2.2.1 h.2.2.2.1 h.2.2.2.2.1 h.2.2.2.2.2.1 h.2.2.2.2.2.2
def Clm.bldP (P : Pl) (B : Nat) : Clm := ⟨1, fun _ v => ∃ l, v = plV P l, fun _ v w => ∀ l, v = plV P l → PA B w P l, fun _ => ⟨_, nilLay, rfl⟩,
  fun _ v w w' h hb u e => (h u e).later hb, fun h => nomatch h⟩
def Clm.chkP : Clm := ⟨1, fun x v => v = .tuple #[x.getLastD undef, .bool true], fun _ _ _ => True, fun _ => ⟨_, rfl⟩, fun _ _ _ _ _ _ => trivial, fun h => nomatch h⟩
def Clm.mkB (B n : Nat) : Clm := ⟨1, fun _ v => ∃ b, v = .slice (some ⟨b, 0, none⟩) n n, fun _ v w => OL B w v (List.replicate n false), fun _ => ⟨_, 0, rfl⟩,
  fun _ v w w' h hb => OL.later h hb, fun h => nomatch h⟩
theorem ap_type {B B' : Nat} {w : World} {p q : Option Addr} {n m c d : Nat} {xs : List Nat} {ys : List Bool} (h1 : OF B w (.slice p n c) xs) (h2 : OL B' w (.slice q m d) ys) : Ap p q := by
  rintro x y rfl rfl e
  unfold OF World.ownsRow at h1
  unfold OL World.ownsRow at h2
  rcases h1.2 with ⟨h, _⟩ | ⟨g, cap, cur, h, _, hg, _⟩
  · cases h
  rcases h2.2 with ⟨h', _⟩ | ⟨g', cap', cur', h', _, hg', _⟩
  · cases h'
  simp only [Value.slice.injEq, Option.some.injEq] at h h'
  have e1 : g = g' := by
    have a1 : x.block = g := by rw [h.1]
    have a2 : y.block = g' := by rw [h'.1]
    omega
  subst e1
  rw [hg] at hg'
  simp only [Option.some.injEq, Obj.cells.injEq] at hg'
  exact absurd hg'.2.1 (by decide)
section
variable {ops : Array Oper} {Q : Exit → Act → World → Prop} {W : World} {l : List Oper} {cs : List Clm} {i : Nat} {ks : List (Nat × (World → Prop))} {a : Act} {o : Oper}
theorem wpC_callX {P : Program} (xs : List Nat) (x0 : List Value) (hox : oargs ops o a = x0) (hw : Region.wanted o (yielded ops a.tmps) = true) {f : FuncId} {args : Array Value} (h1 : ∀ w, (execOp a.eval o).run P w = .ok (.enter f args) w)
    (hz : ∀ w, Below W.heap.size W w → depK o ks w → ∀ z ∈ x0, ∀ k, z.ownBlock = some k → k < w.heap.size)
    (hc : ∀ w, Below W.heap.size W w → depK o ks w → Calls P f args w (fun e w' => ∃ u, e = .returned u ∧ Below w.heap.size w w' ∧ OF w.heap.size w' u xs))
    (h : ∀ q c, wpC P ops Q W l cs (i + 1) ((i, fun w => OF W.heap.size w (.slice q xs.length c) xs ∧ ordV (.slice q xs.length c) x0) :: ks) (a.put o.dst (.slice q xs.length c))) : wpC P ops Q W (o :: l) (Clm.ordX W.heap.size xs :: cs) i ks a := by
  subst hox
  refine wpC_call (Clm.ordX W.heap.size xs) rfl hw h1 (fun w hb hk => (hc w hb hk).mono ?_) ?_
  · rintro e w' ⟨u, rfl, hbl, hO⟩
    obtain ⟨q, c, rfl⟩ := hO.shape
    exact ⟨_, rfl, hbl, ⟨q, c, rfl⟩, hO.base hb.size, fun z hm k k' h1 h2 => Nat.lt_of_lt_of_le (hz w hb hk z hm k h1) (OF.block hO k' h2).1⟩
  · rintro v ⟨q, c, rfl⟩
    exact h q c
theorem wpC_bldP {P : Program} {R : Pl} {m : Lay} (hw : Region.wanted o (yielded ops a.tmps) = true) (h1 : ∀ w, (execOp a.eval o).run P w = .ok (.value (.agg #[.int .i64 R.W, .int .i64 R.H, .slice m.p1 R.a.length m.c1, .slice m.p2 R.b.length m.c2, .slice m.p3 R.c.length m.c3, .slice m.p4 R.d.length m.c4])) w)
    (hk : ∀ w, Below W.heap.size W w → depK o ks w → PA W.heap.size w R m)
    (h : ∀ lb, wpC P ops Q W l cs (i + 1) ((i, fun w => ∀ u, plV R lb = plV R u → PA W.heap.size w R u) :: ks) (a.put o.dst (.agg #[.int .i64 R.W, .int .i64 R.H, .slice lb.p1 R.a.length lb.c1, .slice lb.p2 R.b.length lb.c2, .slice lb.p3 R.c.length lb.c3, .slice lb.p4 R.d.length lb.c4]))) : wpC P ops Q W (o :: l) (Clm.bldP R W.heap.size :: cs) i ks a := by
  refine wpC_make (Clm.bldP R W.heap.size) rfl hw (fun w hb hd => ⟨_, _, h1 w, Below.refl _ _, ⟨m, rfl⟩, fun u e => (plV_inj (P := R) (l := m) (m := u) e) ▸ hk w hb hd⟩) ?_
  rintro v ⟨lb, rfl⟩
  exact h lb
theorem wpC_chkP {P : Program} {v0 : Value} (hx : (o.op.operands.toList.map a.eval).getLastD undef = v0) (hw : Region.wanted o (yielded ops a.tmps) = true) {f : FuncId} {args : Array Value} (h1 : ∀ w, (execOp a.eval o).run P w = .ok (.enter f args) w)
    (hc : ∀ w, Below W.heap.size W w → depK o ks w → Calls P f args w (BV w (.tuple #[v0, .bool true])))
    (h : wpC P ops Q W l cs (i + 1) ((i, fun _ => True) :: ks) (a.put o.dst (.tuple #[v0, .bool true]))) : wpC P ops Q W (o :: l) (Clm.chkP :: cs) i ks a := by
  refine wpC_call Clm.chkP rfl hw h1 (fun w hb hk => (hc w hb hk).mono ?_) ?_
  · rintro e w' ⟨rfl, hbl⟩
    exact ⟨_, rfl, hbl, by rw [← hx]; rfl, trivial⟩
  · intro v hv
    have hv : v = .tuple #[(o.op.operands.toList.map a.eval).getLastD undef, .bool true] := hv
    subst hv
    rw [hx]; exact h
theorem wpC_mkB (n : Nat) {X Y : Operand} (ho : o.op = .makeSlice 23 X Y) (hx : a.eval X = .int .i64 (n : Int)) (hy : a.eval Y = .int .i64 (n : Int)) (hn : n ≤ 1048576) (hw : Region.wanted o (yielded ops a.tmps) = true)
    (h : ∀ b, wpC Try.prog ops Q W l cs (i + 1) ((i, fun w => OL W.heap.size w (.slice (some ⟨b, 0, none⟩) n n) (List.replicate n false)) :: ks) (a.put o.dst (.slice (some ⟨b, 0, none⟩) n n))) : wpC Try.prog ops Q W (o :: l) (Clm.mkB W.heap.size n :: cs) i ks a := by
  obtain ⟨i0, hi, hz0, hz1, hz2⟩ := info_parts Try.infoBool
  refine wpC_make (Clm.mkB W.heap.size n) rfl hw (fun w hb hd => ?_) ?_
  · obtain ⟨w', hrun, r1, r2⟩ := run_make_full (P := Try.prog) w W.heap.size 23 4 i0 (.bool false) 1 Try.underlying23 hi hz0 hz1 .i64 .i64 n (by rw [hz2]; omega) (by unfold maxLen; omega) hb.size
    refine ⟨.slice (some ⟨w.heap.size, 0, none⟩) n n, w', ?_, (Below.refl _ _).grown r2 (Nat.le_refl _) (fun k h => by cases h), ⟨_, rfl⟩, ?_⟩
    · simp [execOp, ho, hx, hy, hrun, Result.andThen]
    · show OL _ _ _ _
      unfold OL
      simp only [Value.cells, Nat.mul_one, toList_madeCells_one, List.length_replicate, List.map_replicate] at r1 ⊢
      exact r1
  · rintro v ⟨b, rfl⟩; exact h b
end
theorem pa_of {B : Nat} {w : World} {R : Pl} {q1 q2 q3 q4 : Option Addr} {d1 d2 d3 d4 : Nat} (o1 : OF B w (.slice q1 R.a.length d1) R.a) (o2 : OF B w (.slice q2 R.b.length d2) R.b) (o3 : OF B w (.slice q3 R.c.length d3) R.c) (o4 : OL B w (.slice q4 R.d.length d4) R.d) (hn : 1 ≤ R.b.length)
    (y2 : ∀ k k', (Value.slice q1 R.a.length d1).ownBlock = some k → (Value.slice q2 R.b.length d2).ownBlock = some k' → k < k') (y3 : ∀ k k', (Value.slice q2 R.b.length d2).ownBlock = some k → (Value.slice q3 R.c.length d3).ownBlock = some k' → k < k') : PA B w R ⟨q1, d1, q2, d2, q3, d3, q4, d4⟩ := by
  obtain ⟨g2, p2, e2, z2, _, _⟩ := o2.fs.ptr hn
  simp only [Value.slice.injEq] at z2
  obtain ⟨rfl, _, rfl⟩ := z2
  refine ⟨⟨o1, o2, o3, o4⟩, ?_, ?_, ap_type o1 o4, ?_, ap_type o2 o4, ap_type o3 o4⟩
  · rintro x y rfl hy; cases hy; have := y2 x.block g2 rfl rfl; show x.block ≠ g2; omega
  · rintro x y rfl rfl; have h1 := y2 x.block g2 rfl rfl; have h2 := y3 g2 y.block rfl rfl; omega
  · rintro x y hx rfl; cases hx; have h2 := y3 g2 y.block rfl rfl; show g2 ≠ y.block; omega
set_option maxHeartbeats 4000000 in
set_option maxRecDepth 100000 in
theorem plain1_any (r N b : Nat) (w : World) (hc : w.cell? ⟨b, 0, none⟩ = some (.int .i64 (N : Int))) (hn : 1 ≤ N ∧ N ≤ 144) : Calls Try.prog 69 #[.float .f32 r, .pointer (some ⟨b, 0, none⟩)] w (fun e w' => ∃ u, e = .returned u ∧ Below w.heap.size w w' ∧ OF w.heap.size w' u (List.replicate N r)) := by
  have hbz : b < w.heap.size := World.block_lt_of_cell? _ _ hc
  have hT : Trk w [b] := (Trk.nil w).more hbz
  have HR := Lib.hid (fun v w h => repeatF_any r N v w h (by omega))
  clear hn
  go_enter Try.func69, Try.ntmps69
  go_wp2_with (first | (with_reducible refine at_list ?_; refine wpList_fop rfl rfl rfl rfl rfl ?_; intro r n hr0; have hr := hr0 _ _ (by first | with_reducible assumption | exact rfl) (by first | with_reducible assumption | exact rfl); clear hr0) | (with_reducible refine at_list ?_; refine wpList_neg rfl rfl rfl ?_; intro r hr0; have hr := hr0 _ (by first | with_reducible assumption | exact rfl); clear hr0) | (with_reducible refine at_list ?_; refine wpList_fop_g rfl rfl rfl rfl rfl ?_; intro r n hr0; have hr := hr0 _ _ (by first | with_reducible assumption | exact rfl) (by first | with_reducible assumption | exact rfl); clear hr0) | (with_reducible refine at_list ?_; refine wpList_wide_g rfl rfl Try.underlying33 Try.underlying37 rfl ?_; intro r n hr0; have hr := hr0 _ (by first | with_reducible assumption | exact rfl); clear hr0) | (with_reducible refine at_list ?_; refine wpList_wide rfl rfl rfl Try.underlying33 Try.underlying37 ?_; intro r n hr0; have hr := hr0 _ (by first | with_reducible assumption | exact rfl); clear hr0) | (go_at_call 70; refine stop_here ?_) | (go_at_call 70; refine (repeatF_any _ _ _ _ (by assumption) (by omega)).mono ?_; rintro e w' ⟨u, rfl, hb, hO⟩; obtain ⟨pu, cu, rfl⟩ := OF.shape hO; (try simp only [World.size_alloc, World.size_setCell, World.size_drew, World.drewN] at hO); obtain ⟨hT, hk⟩ := bv_next hb (by (repeat (with_reducible first | assumption | apply Trk.alloc | apply Trk.setCell | apply Trk.drewN | apply Trk.drew | exact Trk.nil _))); simp only [SameOn, World.size_alloc, World.size_setCell, World.size_drew, size_drewN', and_true] at hk; have hsz := Below.size hb; (try simp only [World.size_alloc, World.size_setCell, World.size_drew, size_drewN'] at hsz)))
  unfold Stop
  refine (HR.out _ _ (FS1 (by go_simp <;> exact rfl))).mono ?_
  rintro e w' ⟨u, rfl, hb, hO⟩
  obtain ⟨q, c, rfl⟩ := OF.shape hO
  obtain ⟨hT, hk⟩ := bv_next hb (by (repeat (with_reducible first | assumption | apply Trk.alloc | apply Trk.setCell | apply Trk.drewN | apply Trk.drew | exact Trk.nil _))); simp only [SameOn, World.size_alloc, World.size_setCell, World.size_drew, size_drewN', and_true] at hk; have hsz := Below.size hb; (try simp only [World.size_alloc, World.size_setCell, World.size_drew, size_drewN'] at hsz)
  go_wp2_with (first | (with_reducible refine at_list ?_; refine wpList_fop rfl rfl rfl rfl rfl ?_; intro r n hr0; have hr := hr0 _ _ (by first | with_reducible assumption | exact rfl) (by first | with_reducible assumption | exact rfl); clear hr0) | (with_reducible refine at_list ?_; refine wpList_neg rfl rfl rfl ?_; intro r hr0; have hr := hr0 _ (by first | with_reducible assumption | exact rfl); clear hr0) | (with_reducible refine at_list ?_; refine wpList_fop_g rfl rfl rfl rfl rfl ?_; intro r n hr0; have hr := hr0 _ _ (by first | with_reducible assumption | exact rfl) (by first | with_reducible assumption | exact rfl); clear hr0) | (with_reducible refine at_list ?_; refine wpList_wide_g rfl rfl Try.underlying33 Try.underlying37 rfl ?_; intro r n hr0; have hr := hr0 _ (by first | with_reducible assumption | exact rfl); clear hr0) | (with_reducible refine at_list ?_; refine wpList_wide rfl rfl rfl Try.underlying33 Try.underlying37 ?_; intro r n hr0; have hr := hr0 _ (by first | with_reducible assumption | exact rfl); clear hr0) | (go_at_call 70; refine (repeatF_any _ _ _ _ (by assumption) (by omega)).mono ?_; rintro e w' ⟨u, rfl, hb, hO⟩; obtain ⟨pu, cu, rfl⟩ := OF.shape hO; (try simp only [World.size_alloc, World.size_setCell, World.size_drew, World.drewN] at hO); obtain ⟨hT, hk⟩ := bv_next hb (by (repeat (with_reducible first | assumption | apply Trk.alloc | apply Trk.setCell | apply Trk.drewN | apply Trk.drew | exact Trk.nil _))); simp only [SameOn, World.size_alloc, World.size_setCell, World.size_drew, size_drewN', and_true] at hk; have hsz := Below.size hb; (try simp only [World.size_alloc, World.size_setCell, World.size_drew, size_drewN'] at hsz)))
  have hO9 : OF w.heap.size w' (.slice q (List.replicate N r).length c) (List.replicate N r) := OF.base hO (by simp)
  rw [List.length_replicate] at hO9
  go_ret
  exact ⟨_, rfl, ((Below.refl _ _).alloc (Nat.le_refl _) _).trans (hb.mono (by simp)), hO9⟩
set_option maxHeartbeats 1000000 in
theorem checkedPl_yes (P : Pl) (l : Lay) (w : World) (hs : P.fs w l) (h0 : P.ok = true) : Calls Try.prog 71 #[.agg #[.int .i64 P.W, .int .i64 P.H, .slice l.p1 P.a.length l.c1, .slice l.p2 P.b.length l.c2, .slice l.p3 P.c.length l.c3, .slice l.p4 P.d.length l.c4]] w (BV w (.tuple #[.agg #[.int .i64 P.W, .int .i64 P.H, .slice l.p1 P.a.length l.c1, .slice l.p2 P.b.length l.c2, .slice l.p3 P.c.length l.c3, .slice l.p4 P.d.length l.c4], .bool true])) := by
  have HV := Lib.hid (fun w h1 => implValidPlate_any P l w h1)
  rw [h0] at HV
  have HS := Lib.hid hs
  clear hs h0
  go_enter Try.func71, Try.ntmps71
  go_wp2_with (first | (with_reducible refine at_list ?_; refine wpList_fop rfl rfl rfl rfl rfl ?_; intro r n hr0; have hr := hr0 _ _ (by first | with_reducible assumption | exact rfl) (by first | with_reducible assumption | exact rfl); clear hr0) | (with_reducible refine at_list ?_; refine wpList_neg rfl rfl rfl ?_; intro r hr0; have hr := hr0 _ (by first | with_reducible assumption | exact rfl); clear hr0) | (with_reducible refine at_list ?_; refine wpList_fop_g rfl rfl rfl rfl rfl ?_; intro r n hr0; have hr := hr0 _ _ (by first | with_reducible assumption | exact rfl) (by first | with_reducible assumption | exact rfl); clear hr0) | (with_reducible refine at_list ?_; refine wpList_wide_g rfl rfl Try.underlying33 Try.underlying37 rfl ?_; intro r n hr0; have hr := hr0 _ (by first | with_reducible assumption | exact rfl); clear hr0) | (with_reducible refine at_list ?_; refine wpList_wide rfl rfl rfl Try.underlying33 Try.underlying37 ?_; intro r n hr0; have hr := hr0 _ (by first | with_reducible assumption | exact rfl); clear hr0) | (go_at_call 18; refine ((HV.out _ (HS.out.later (by (repeat (first | (with_reducible exact Below.refl _ _) | (with_reducible assumption) | (with_reducible refine below_then ?_ (by assumption)) | (with_reducible refine Below.trans ?_ (by assumption)) | (with_reducible refine below_drewN ?_ _) | (with_reducible apply Below.drew) | (with_reducible refine below_alloc ?_ _) | refine Below.setCell ?_ (by first | (simp; done) | (simp; omega)) _))))) ).mono ?_; rintro e w' ⟨rfl, hb⟩; obtain ⟨hT, hk⟩ := bv_next hb (by (repeat (with_reducible first | assumption | apply Trk.alloc | apply Trk.setCell | apply Trk.drewN | apply Trk.drew | exact Trk.nil _))); simp only [SameOn, World.size_alloc, World.size_setCell, World.size_drew, size_drewN', and_true] at hk; have hsz := Below.size hb; (try simp only [World.size_alloc, World.size_setCell, World.size_drew, size_drewN'] at hsz)))
  all_goals
    refine bodyPost_ret (v := .tuple #[.agg #[.int .i64 P.W, .int .i64 P.H, .slice l.p1 P.a.length l.c1, .slice l.p2 P.b.length l.c2, .slice l.p3 P.c.length l.c3, .slice l.p4 P.d.length l.c4], .bool true]) (by simp [results, Try.results71, go_sem, *]) rfl ?_
    exact ⟨rfl, by (repeat (first | (with_reducible exact Below.refl _ _) | (with_reducible assumption) | (with_reducible refine below_then ?_ (by assumption)) | (with_reducible refine Below.trans ?_ (by assumption)) | (with_reducible refine below_drewN ?_ _) | (with_reducible apply Below.drew) | (with_reducible refine below_alloc ?_ _) | refine Below.setCell ?_ (by first | (simp; done) | (simp; omega)) _))⟩
set_option maxHeartbeats 1000000 in
theorem checkedPl_no (P : Pl) (l : Lay) (w : World) (hs : P.fs w l) (h0 : P.ok = false) : Calls Try.prog 71 #[.agg #[.int .i64 P.W, .int .i64 P.H, .slice l.p1 P.a.length l.c1, .slice l.p2 P.b.length l.c2, .slice l.p3 P.c.length l.c3, .slice l.p4 P.d.length l.c4]] w (BV w (.tuple #[.agg #[.int .i64 0, .int .i64 0, .slice none 0 0, .slice none 0 0, .slice none 0 0, .slice none 0 0], .bool false])) := by
  have HV := Lib.hid (fun w h1 => implValidPlate_any P l w h1)
  rw [h0] at HV
  have HS := Lib.hid hs
  clear hs h0
  go_enter Try.func71, Try.ntmps71
  go_wp2_with (first | (with_reducible refine at_list ?_; refine wpList_fop rfl rfl rfl rfl rfl ?_; intro r n hr0; have hr := hr0 _ _ (by first | with_reducible assumption | exact rfl) (by first | with_reducible assumption | exact rfl); clear hr0) | (with_reducible refine at_list ?_; refine wpList_neg rfl rfl rfl ?_; intro r hr0; have hr := hr0 _ (by first | with_reducible assumption | exact rfl); clear hr0) | (with_reducible refine at_list ?_; refine wpList_fop_g rfl rfl rfl rfl rfl ?_; intro r n hr0; have hr := hr0 _ _ (by first | with_reducible assumption | exact rfl) (by first | with_reducible assumption | exact rfl); clear hr0) | (with_reducible refine at_list ?_; refine wpList_wide_g rfl rfl Try.underlying33 Try.underlying37 rfl ?_; intro r n hr0; have hr := hr0 _ (by first | with_reducible assumption | exact rfl); clear hr0) | (with_reducible refine at_list ?_; refine wpList_wide rfl rfl rfl Try.underlying33 Try.underlying37 ?_; intro r n hr0; have hr := hr0 _ (by first | with_reducible assumption | exact rfl); clear hr0) | (go_at_call 18; refine ((HV.out _ (HS.out.later (by (repeat (first | (with_reducible exact Below.refl _ _) | (with_reducible assumption) | (with_reducible refine below_then ?_ (by assumption)) | (with_reducible refine Below.trans ?_ (by assumption)) | (with_reducible refine below_drewN ?_ _) | (with_reducible apply Below.drew) | (with_reducible refine below_alloc ?_ _) | refine Below.setCell ?_ (by first | (simp; done) | (simp; omega)) _))))) ).mono ?_; rintro e w' ⟨rfl, hb⟩; obtain ⟨hT, hk⟩ := bv_next hb (by (repeat (with_reducible first | assumption | apply Trk.alloc | apply Trk.setCell | apply Trk.drewN | apply Trk.drew | exact Trk.nil _))); simp only [SameOn, World.size_alloc, World.size_setCell, World.size_drew, size_drewN', and_true] at hk; have hsz := Below.size hb; (try simp only [World.size_alloc, World.size_setCell, World.size_drew, size_drewN'] at hsz)))
  all_goals
    refine bodyPost_ret (v := .tuple #[.agg #[.int .i64 0, .int .i64 0, .slice none 0 0, .slice none 0 0, .slice none 0 0, .slice none 0 0], .bool false]) (by simp [results, Try.results71, go_sem, *]) rfl ?_
    exact ⟨rfl, by (repeat (first | (with_reducible exact Below.refl _ _) | (with_reducible assumption) | (with_reducible refine below_then ?_ (by assumption)) | (with_reducible refine Below.trans ?_ (by assumption)) | (with_reducible refine below_drewN ?_ _) | (with_reducible apply Below.drew) | (with_reducible refine below_alloc ?_ _) | refine Below.setCell ?_ (by first | (simp; done) | (simp; omega)) _))⟩
set_option maxHeartbeats 8000000 in
set_option maxRecDepth 100000 in
theorem implPlain_any (W H : Int) (t p : Nat) (w : World) : Calls Try.prog 30 #[.int .i64 W, .int .i64 H, .float .f32 t, .float .f32 p] w (BPB w (okP (plB W H t p) (plainPl W H t p (W * H).toNat)) (plB W H t p)) := by
  rcases h1 : inB W 1 12
  · have HE : Hid (plB W H t p = false) := plB_no (.inl h1)
    go_enter Try.func30, Try.ntmps30
    go_wp2_with (first | (with_reducible refine at_list ?_; refine wpList_fop rfl rfl rfl rfl rfl ?_; intro r n hr0; have hr := hr0 _ _ (by first | with_reducible assumption | exact rfl) (by first | with_reducible assumption | exact rfl); clear hr0) | (with_reducible refine at_list ?_; refine wpList_neg rfl rfl rfl ?_; intro r hr0; have hr := hr0 _ (by first | with_reducible assumption | exact rfl); clear hr0) | (with_reducible refine at_list ?_; refine wpList_fop_g rfl rfl rfl rfl rfl ?_; intro r n hr0; have hr := hr0 _ _ (by first | with_reducible assumption | exact rfl) (by first | with_reducible assumption | exact rfl); clear hr0) | (with_reducible refine at_list ?_; refine wpList_wide_g rfl rfl Try.underlying33 Try.underlying37 rfl ?_; intro r n hr0; have hr := hr0 _ (by first | with_reducible assumption | exact rfl); clear hr0) | (with_reducible refine at_list ?_; refine wpList_wide rfl rfl rfl Try.underlying33 Try.underlying37 ?_; intro r n hr0; have hr := hr0 _ (by first | with_reducible assumption | exact rfl); clear hr0) | (go_at_call 54; refine (within_any _ _ _ _).mono ?_; rintro e w' ⟨rfl, n, rfl⟩))
    all_goals
      refine bodyPost_ret (v := .tuple #[.agg #[.int .i64 0, .int .i64 0, .slice none 0 0, .slice none 0 0, .slice none 0 0, .slice none 0 0], .bool false]) (by simp [results, Try.results30, go_sem, *]) rfl ?_
      exact bpb_no rfl (by (repeat (first | (with_reducible exact Below.refl _ _) | (with_reducible assumption) | (with_reducible refine below_then ?_ (by assumption)) | (with_reducible refine Below.trans ?_ (by assumption)) | (with_reducible refine below_drewN ?_ _) | (with_reducible apply Below.drew) | (with_reducible refine below_alloc ?_ _) | refine Below.setCell ?_ (by first | (simp; done) | (simp; omega)) _))) HE.out
  rcases h2 : inB H 1 12
  · have HE : Hid (plB W H t p = false) := plB_no (.inr h2)
    go_enter Try.func30, Try.ntmps30
    go_wp2_with (first | (with_reducible refine at_list ?_; refine wpList_fop rfl rfl rfl rfl rfl ?_; intro r n hr0; have hr := hr0 _ _ (by first | with_reducible assumption | exact rfl) (by first | with_reducible assumption | exact rfl); clear hr0) | (with_reducible refine at_list ?_; refine wpList_neg rfl rfl rfl ?_; intro r hr0; have hr := hr0 _ (by first | with_reducible assumption | exact rfl); clear hr0) | (with_reducible refine at_list ?_; refine wpList_fop_g rfl rfl rfl rfl rfl ?_; intro r n hr0; have hr := hr0 _ _ (by first | with_reducible assumption | exact rfl) (by first | with_reducible assumption | exact rfl); clear hr0) | (with_reducible refine at_list ?_; refine wpList_wide_g rfl rfl Try.underlying33 Try.underlying37 rfl ?_; intro r n hr0; have hr := hr0 _ (by first | with_reducible assumption | exact rfl); clear hr0) | (with_reducible refine at_list ?_; refine wpList_wide rfl rfl rfl Try.underlying33 Try.underlying37 ?_; intro r n hr0; have hr := hr0 _ (by first | with_reducible assumption | exact rfl); clear hr0) | (go_at_call 54; refine (within_any _ _ _ _).mono ?_; rintro e w' ⟨rfl, n, rfl⟩))
    all_goals
      refine bodyPost_ret (v := .tuple #[.agg #[.int .i64 0, .int .i64 0, .slice none 0 0, .slice none 0 0, .slice none 0 0, .slice none 0 0], .bool false]) (by simp [results, Try.results30, go_sem, *]) rfl ?_
      exact bpb_no rfl (by (repeat (first | (with_reducible exact Below.refl _ _) | (with_reducible assumption) | (with_reducible refine below_then ?_ (by assumption)) | (with_reducible refine Below.trans ?_ (by assumption)) | (with_reducible refine below_drewN ?_ _) | (with_reducible apply Below.drew) | (with_reducible refine below_alloc ?_ _) | refine Below.setCell ?_ (by first | (simp; done) | (simp; omega)) _))) HE.out
  have hm := side_mul h1 h2
  have hpb := plB_yes (t := t) (p := p) h1 h2
  obtain ⟨N, hN⟩ : ∃ N : Nat, (N : Int) = W * H := ⟨(W * H).toNat, by omega⟩
  have hN2 : (W * H).toNat = N := by omega
  have hwr : IntKind.i64.wrap (W * H) = (N : Int) := by rw [IntWalk.i64_in _ (by omega)]; omega
  have hn : 1 ≤ N ∧ N ≤ 144 := by omega
  rw [hpb, hN2]
  have HC := Lib.hid (fun r b w h => plain1_any r N b w h hn)
  obtain ⟨P, HL, hPW, hPH, hPE⟩ : ∃ P : Pl, Hid (P.a = List.replicate N t ∧ P.b = List.replicate N p ∧ P.c = List.replicate N 0 ∧ P.d = List.replicate N false) ∧ P.W = W ∧ P.H = H ∧ P = plainPl W H t p N := ⟨_, ⟨rfl, rfl, rfl, rfl⟩, rfl, rfl, rfl⟩
  rw [← hPE]
  clear hPE
  subst hPW hPH
  have HN := Lib.hid hn
  rcases hb0 : P.ok
  all_goals
    have HK := Lib.hid hb0
    clear hm hpb hN hN2 hb0 hn
    go_enter Try.func30, Try.ntmps30
    go_wp2_with (first | (with_reducible refine at_list ?_; refine wpList_fop rfl rfl rfl rfl rfl ?_; intro r n hr0; have hr := hr0 _ _ (by first | with_reducible assumption | exact rfl) (by first | with_reducible assumption | exact rfl); clear hr0) | (with_reducible refine at_list ?_; refine wpList_neg rfl rfl rfl ?_; intro r hr0; have hr := hr0 _ (by first | with_reducible assumption | exact rfl); clear hr0) | (with_reducible refine at_list ?_; refine wpList_fop_g rfl rfl rfl rfl rfl ?_; intro r n hr0; have hr := hr0 _ _ (by first | with_reducible assumption | exact rfl) (by first | with_reducible assumption | exact rfl); clear hr0) | (with_reducible refine at_list ?_; refine wpList_wide_g rfl rfl Try.underlying33 Try.underlying37 rfl ?_; intro r n hr0; have hr := hr0 _ (by first | with_reducible assumption | exact rfl); clear hr0) | (with_reducible refine at_list ?_; refine wpList_wide rfl rfl rfl Try.underlying33 Try.underlying37 ?_; intro r n hr0; have hr := hr0 _ (by first | with_reducible assumption | exact rfl); clear hr0) | (go_at_call 54; refine (within_any _ _ _ _).mono ?_; rintro e w' ⟨rfl, n, rfl⟩))
    refine wp_named ?_
    intro w3 hw3
    obtain ⟨b10, hb10, HB3, hc10, hr0⟩ : ∃ b10, b10 = w.heap.size + 1 ∧ Hid (Below w.heap.size w w3 ∧ w.heap.size + 2 ≤ w3.heap.size) ∧ w3.cell? ⟨b10, 0, none⟩ = some (.int .i64 (N : Int)) ∧ Hid ((w3.cell? ⟨w.heap.size, 0, none⟩ = some (.int .i64 0) ∧ w3.cell? ⟨w.heap.size, 1, none⟩ = some (.int .i64 0) ∧ w3.cell? ⟨w.heap.size, 2, none⟩ = some (.slice none 0 0) ∧ w3.cell? ⟨w.heap.size, 3, none⟩ = some (.slice none 0 0) ∧ w3.cell? ⟨w.heap.size, 4, none⟩ = some (.slice none 0 0) ∧ w3.cell? ⟨w.heap.size, 5, none⟩ = some (.slice none 0 0)) ∧ ∀ o, w3.frozen? ⟨w.heap.size, o, none⟩ = false) := by
      refine ⟨_, rfl, ⟨by rw [hw3]; show Below _ _ _; (repeat (first | (with_reducible exact Below.refl _ _) | (with_reducible assumption) | (with_reducible refine below_then ?_ (by assumption)) | (with_reducible refine Below.trans ?_ (by assumption)) | (with_reducible refine below_drewN ?_ _) | (with_reducible apply Below.drew) | (with_reducible refine below_alloc ?_ _) | refine Below.setCell ?_ (by first | (simp; done) | (simp; omega)) _)), by rw [hw3]; first | omega | (simp; done) | (simp; omega)⟩, by rw [hw3]; go_simp, ?_⟩
      rw [hw3]; exact ⟨⟨by go_simp, by go_simp, by go_simp, by go_simp, by go_simp, by go_simp⟩, fun o => by go_simp⟩
    have hb3 := HB3.out.2
    have hbz : b10 < w3.heap.size := by omega
    subst hb10
    clear hw3
    try clear hb hk hT hsz
    have hT : Trk w3 [w.heap.size, w.heap.size + 1] := ((Trk.nil w3).more (by omega)).more (by omega)
    have hc10f : ∀ w', Below w3.heap.size w3 w' → w'.cell? ⟨w.heap.size + 1, 0, none⟩ = some (.int .i64 (N : Int)) := fun w' h => (h.cell (p := ⟨w.heap.size + 1, 0, none⟩) hbz).trans hc10
    have HC10 := Lib.hid hc10f
  ·
    apply wp_region_plan
    (apply wpC_det; (case hw => exact rfl); (case hs => (intro cs b h; cases h)); (case h1 => (intro w'; go_simp <;> exact rfl)))
    apply wpC_norm
    (case ha => (simp only [Act.put, List.setIfInBounds_toArray, List.set_cons_zero, List.set_cons_succ]; exact rfl))
    (apply wpC_det; (case hw => exact rfl); (case hs => (intro cs b h; cases h)); (case h1 => (intro w'; go_simp <;> exact rfl)))
    apply wpC_norm
    (case ha => (simp only [Act.put, List.setIfInBounds_toArray, List.set_cons_zero, List.set_cons_succ]; exact rfl))
    (apply wpC_det; (case hw => exact rfl); (case hs => (intro cs b h; cases h)); (case h1 => (intro w'; go_simp <;> exact rfl)))
    apply wpC_norm
    (case ha => (simp only [Act.put, List.setIfInBounds_toArray, List.set_cons_zero, List.set_cons_succ]; exact rfl))
    (apply wpC_det; (case hw => exact rfl); (case hs => (intro cs b h; cases h)); (case h1 => (intro w'; go_simp <;> exact rfl)))
    apply wpC_norm
    (case ha => (simp only [Act.put, List.setIfInBounds_toArray, List.set_cons_zero, List.set_cons_succ]; exact rfl))
    (apply wpC_callX P.a [Value.func (Fn.func 69) #[] #[Value.pointer (some ⟨w.heap.size + 1, 0, none⟩)], .float .f32 t, Value.func (Fn.func 69) #[] #[Value.pointer (some ⟨w.heap.size + 1, 0, none⟩)], .float .f32 t]; (case hox => (first | exact rfl | kernel_rfl)); (case hw => exact rfl); (case h1 => (intro w'; go_simp; exact ⟨rfl, rfl⟩)); (case hz => (intro w' hb hk0 z hz k hk; simp only [List.mem_cons, List.not_mem_nil, or_false] at hz; rcases hz with rfl | rfl | rfl | rfl <;> (first | cases hk | exact (OF.block (show OF _ _ _ _ ∧ ordV _ _ from hk0.1).1 k hk).2 | exact (OF.block (show OF _ _ _ _ ∧ ordV _ _ from hk0.2.1).1 k hk).2))); (case hc => (intro w' hb hk0; rw [HL.out.1]; exact HC.out t (w.heap.size + 1) w' (HC10.out w' hb))); intro q1 d1)
    apply wpC_norm
    (case ha => (simp only [Act.put, List.setIfInBounds_toArray, List.set_cons_zero, List.set_cons_succ]; exact rfl))
    (apply wpC_det; (case hw => exact rfl); (case hs => (intro cs b h; cases h)); (case h1 => (intro w'; go_simp <;> exact rfl)))
    apply wpC_norm
    (case ha => (simp only [Act.put, List.setIfInBounds_toArray, List.set_cons_zero, List.set_cons_succ]; exact rfl))
    (apply wpC_det; (case hw => exact rfl); (case hs => (intro cs b h; cases h)); (case h1 => (intro w'; go_simp <;> exact rfl)))
    apply wpC_norm
    (case ha => (simp only [Act.put, List.setIfInBounds_toArray, List.set_cons_zero, List.set_cons_succ]; exact rfl))
    (apply wpC_callX P.b [Value.func (Fn.func 69) #[] #[Value.pointer (some ⟨w.heap.size + 1, 0, none⟩)], .float .f32 p, .slice q1 P.a.length d1, Value.func (Fn.func 69) #[] #[Value.pointer (some ⟨w.heap.size + 1, 0, none⟩)], .float .f32 p]; (case hox => (first | exact rfl | kernel_rfl)); (case hw => exact rfl); (case h1 => (intro w'; go_simp; exact ⟨rfl, rfl⟩)); (case hz => (intro w' hb hk0 z hz k hk; simp only [List.mem_cons, List.not_mem_nil, or_false] at hz; rcases hz with rfl | rfl | rfl | rfl | rfl <;> (first | cases hk | exact (OF.block (show OF _ _ _ _ ∧ ordV _ _ from hk0.1).1 k hk).2 | exact (OF.block (show OF _ _ _ _ ∧ ordV _ _ from hk0.2.1).1 k hk).2))); (case hc => (intro w' hb hk0; rw [HL.out.2.1]; exact HC.out p (w.heap.size + 1) w' (HC10.out w' hb))); intro q2 d2)
    apply wpC_norm
    (case ha => (simp only [Act.put, List.setIfInBounds_toArray, List.set_cons_zero, List.set_cons_succ]; exact rfl))
    (apply wpC_det; (case hw => exact rfl); (case hs => (intro cs b h; cases h)); (case h1 => (intro w'; go_simp <;> exact rfl)))
    apply wpC_norm
    (case ha => (simp only [Act.put, List.setIfInBounds_toArray, List.set_cons_zero, List.set_cons_succ]; exact rfl))
    (apply wpC_callX P.c [Value.func (Fn.func 69) #[] #[Value.pointer (some ⟨w.heap.size + 1, 0, none⟩)], .float .f32 0, .slice q2 P.b.length d2, Value.func (Fn.func 69) #[] #[Value.pointer (some ⟨w.heap.size + 1, 0, none⟩)]]; (case hox => (first | exact rfl | kernel_rfl)); (case hw => exact rfl); (case h1 => (intro w'; go_simp; exact ⟨rfl, rfl⟩)); (case hz => (intro w' hb hk0 z hz k hk; simp only [List.mem_cons, List.not_mem_nil, or_false] at hz; rcases hz with rfl | rfl | rfl | rfl <;> (first | cases hk | exact (OF.block (show OF _ _ _ _ ∧ ordV _ _ from hk0.1).1 k hk).2 | exact (OF.block (show OF _ _ _ _ ∧ ordV _ _ from hk0.2.1).1 k hk).2))); (case hc => (intro w' hb hk0; rw [HL.out.2.2.1]; exact HC.out 0 (w.heap.size + 1) w' (HC10.out w' hb))); intro q3 d3)
    apply wpC_norm
    (case ha => (simp only [Act.put, List.setIfInBounds_toArray, List.set_cons_zero, List.set_cons_succ]; exact rfl))
    (apply wpC_val; (case hw => exact rfl); (case h1 => (intro w' hb hk0; have h10 := HC10.out w' hb; go_simp <;> exact rfl)))
    apply wpC_norm
    (case ha => (simp only [Act.put, List.setIfInBounds_toArray, List.set_cons_zero, List.set_cons_succ]; exact rfl))
    (apply wpC_mkB P.d.length rfl; (case hx => (show Value.int .i64 (N : Int) = _; rw [HL.out.2.2.2, List.length_replicate])); (case hy => (show Value.int .i64 (N : Int) = _; rw [HL.out.2.2.2, List.length_replicate])); (case hn => (rw [HL.out.2.2.2, List.length_replicate]; have := HN.out; omega)); (case hw => exact rfl); intro b4)
    apply wpC_norm
    (case ha => (simp only [Act.put, List.setIfInBounds_toArray, List.set_cons_zero, List.set_cons_succ]; exact rfl))
    (apply wpC_bldP (R := P) (m := ⟨q1, d1, q2, d2, q3, d3, some ⟨b4, 0, none⟩, P.d.length⟩); (case hw => exact rfl); (case h1 => (intro w'; go_simp <;> exact rfl)); (case hk => (intro w' hb hk0; have k1 := (show OF _ _ _ P.a ∧ ordV _ _ from hk0.2.2.2.2.1); have k2 := (show OF _ _ _ P.b ∧ ordV _ _ from hk0.2.2.2.1); have k3 := (show OF _ _ _ P.c ∧ ordV _ _ from hk0.2.2.1); have k4 := (show OL _ _ _ (List.replicate P.d.length false) from hk0.1); exact pa_of k1.1 k2.1 k3.1 (by rw [show List.replicate P.d.length false = P.d by rw [HL.out.2.2.2, List.length_replicate]] at k4; exact k4) (by rw [HL.out.2.1, List.length_replicate]; exact HN.out.1) (fun k k' h h' => k2.2 _ (by simp) k k' h h') (fun k k' h h' => k3.2 _ (by simp) k k' h h'))); intro lb)
    apply wpC_norm
    (case ha => (simp only [Act.put, List.setIfInBounds_toArray, List.set_cons_zero, List.set_cons_succ]; exact rfl))
    (apply wpC_callB (.tuple #[.agg #[.int .i64 0, .int .i64 0, .slice none 0 0, .slice none 0 0, .slice none 0 0, .slice none 0 0], .bool false]); (case hw => exact rfl); (case h1 => (intro w'; go_simp; exact ⟨rfl, rfl⟩)); (case hc => (intro w' hb hk0; exact checkedPl_no P lb w' ((show ∀ u, plV P lb = plV P u → PA _ _ P u from hk0.1) _ rfl).1.fs HK.out)))
    apply wpC_norm
    (case ha => (simp only [Act.put, List.setIfInBounds_toArray, List.set_cons_zero, List.set_cons_succ]; exact rfl))
    (apply wpC_det; (case hw => exact rfl); (case hs => (intro cs b h; cases h)); (case h1 => (intro w'; go_simp <;> exact rfl)))
    apply wpC_norm
    (case ha => (simp only [Act.put, List.setIfInBounds_toArray, List.set_cons_zero, List.set_cons_succ]; exact rfl))
    (apply wpC_det; (case hw => exact rfl); (case hs => (intro cs b h; cases h)); (case h1 => (intro w'; go_simp <;> exact rfl)))
    apply wpC_norm
    (case ha => (simp only [Act.put, List.setIfInBounds_toArray, List.set_cons_zero, List.set_cons_succ]; exact rfl))
    refine wpC_tail (by kernel_rfl) (by first | rfl | kernel_rfl) ?_
    intro w4 hb hkk
    have hB4 := hb
    obtain ⟨⟨r0, r1, r2, r3, r4, r5⟩, rf⟩ := hr0.out
    have r0 := (hb.cell (p := ⟨w.heap.size, 0, none⟩) (by show w.heap.size < _; omega)).trans r0
    have r1 := (hb.cell (p := ⟨w.heap.size, 1, none⟩) (by show w.heap.size < _; omega)).trans r1
    have r2 := (hb.cell (p := ⟨w.heap.size, 2, none⟩) (by show w.heap.size < _; omega)).trans r2
    have r3 := (hb.cell (p := ⟨w.heap.size, 3, none⟩) (by show w.heap.size < _; omega)).trans r3
    have r4 := (hb.cell (p := ⟨w.heap.size, 4, none⟩) (by show w.heap.size < _; omega)).trans r4
    have r5 := (hb.cell (p := ⟨w.heap.size, 5, none⟩) (by show w.heap.size < _; omega)).trans r5
    have rf : ∀ o, w4.frozen? ⟨w.heap.size, o, none⟩ = false := fun o => (hb.frozen (p := ⟨w.heap.size, o, none⟩) (by show w.heap.size < _; omega)).trans (rf o)
    have HPA : Hid (PA w3.heap.size w4 P lb) := (show ∀ u, plV P lb = plV P u → PA _ _ P u from hkk.2.1) _ rfl
    have hz4 := hb.size
    have hT4 : Trk w4 [w.heap.size] := (Trk.nil w4).more (by omega)
    have HBW : Hid (Below w.heap.size w w4) := HB3.out.1.trans (hb.mono (by omega))
    clear hb hkk hT hc10 hc10f
    have hT := hT4
    have hbw := HBW.out
    go_wp2_with (first | (with_reducible refine at_list ?_; refine wpList_fop rfl rfl rfl rfl rfl ?_; intro r n hr0; have hr := hr0 _ _ (by first | with_reducible assumption | exact rfl) (by first | with_reducible assumption | exact rfl); clear hr0) | (with_reducible refine at_list ?_; refine wpList_neg rfl rfl rfl ?_; intro r hr0; have hr := hr0 _ (by first | with_reducible assumption | exact rfl); clear hr0) | (with_reducible refine at_list ?_; refine wpList_fop_g rfl rfl rfl rfl rfl ?_; intro r n hr0; have hr := hr0 _ _ (by first | with_reducible assumption | exact rfl) (by first | with_reducible assumption | exact rfl); clear hr0) | (with_reducible refine at_list ?_; refine wpList_wide_g rfl rfl Try.underlying33 Try.underlying37 rfl ?_; intro r n hr0; have hr := hr0 _ (by first | with_reducible assumption | exact rfl); clear hr0) | (with_reducible refine at_list ?_; refine wpList_wide rfl rfl rfl Try.underlying33 Try.underlying37 ?_; intro r n hr0; have hr := hr0 _ (by first | with_reducible assumption | exact rfl); clear hr0) | (go_at_call 54; refine (within_any _ _ _ _).mono ?_; rintro e w' ⟨rfl, n, rfl⟩))
    refine bodyPost_ret (v := .tuple #[.agg #[.int .i64 0, .int .i64 0, .slice none 0 0, .slice none 0 0, .slice none 0 0, .slice none 0 0], .bool false]) (by simp [results, Try.results30, go_sem, *]) rfl ?_
    exact bpb_no rfl (by (repeat (first | (with_reducible exact Below.refl _ _) | (with_reducible assumption) | (with_reducible refine below_then ?_ (by assumption)) | (with_reducible refine Below.trans ?_ (by assumption)) | (with_reducible refine below_drewN ?_ _) | (with_reducible apply Below.drew) | (with_reducible refine below_alloc ?_ _) | refine Below.setCell ?_ (by first | (simp; done) | (simp; omega)) _))) rfl
    all_goals (first | kernel_rfl | rfl)
  ·
    apply wp_region_plan
    (apply wpC_det; (case hw => exact rfl); (case hs => (intro cs b h; cases h)); (case h1 => (intro w'; go_simp <;> exact rfl)))
    apply wpC_norm
    (case ha => (simp only [Act.put, List.setIfInBounds_toArray, List.set_cons_zero, List.set_cons_succ]; exact rfl))
    (apply wpC_det; (case hw => exact rfl); (case hs => (intro cs b h; cases h)); (case h1 => (intro w'; go_simp <;> exact rfl)))
    apply wpC_norm
    (case ha => (simp only [Act.put, List.setIfInBounds_toArray, List.set_cons_zero, List.set_cons_succ]; exact rfl))
    (apply wpC_det; (case hw => exact rfl); (case hs => (intro cs b h; cases h)); (case h1 => (intro w'; go_simp <;> exact rfl)))
    apply wpC_norm
    (case ha => (simp only [Act.put, List.setIfInBounds_toArray, List.set_cons_zero, List.set_cons_succ]; exact rfl))
    (apply wpC_det; (case hw => exact rfl); (case hs => (intro cs b h; cases h)); (case h1 => (intro w'; go_simp <;> exact rfl)))
    apply wpC_norm
    (case ha => (simp only [Act.put, List.setIfInBounds_toArray, List.set_cons_zero, List.set_cons_succ]; exact rfl))
    (apply wpC_callX P.a [Value.func (Fn.func 69) #[] #[Value.pointer (some ⟨w.heap.size + 1, 0, none⟩)], .float .f32 t, Value.func (Fn.func 69) #[] #[Value.pointer (some ⟨w.heap.size + 1, 0, none⟩)], .float .f32 t]; (case hox => (first | exact rfl | kernel_rfl)); (case hw => exact rfl); (case h1 => (intro w'; go_simp; exact ⟨rfl, rfl⟩)); (case hz => (intro w' hb hk0 z hz k hk; simp only [List.mem_cons, List.not_mem_nil, or_false] at hz; rcases hz with rfl | rfl | rfl | rfl <;> (first | cases hk | exact (OF.block (show OF _ _ _ _ ∧ ordV _ _ from hk0.1).1 k hk).2 | exact (OF.block (show OF _ _ _ _ ∧ ordV _ _ from hk0.2.1).1 k hk).2))); (case hc => (intro w' hb hk0; rw [HL.out.1]; exact HC.out t (w.heap.size + 1) w' (HC10.out w' hb))); intro q1 d1)
    apply wpC_norm
    (case ha => (simp only [Act.put, List.setIfInBounds_toArray, List.set_cons_zero, List.set_cons_succ]; exact rfl))
    (apply wpC_det; (case hw => exact rfl); (case hs => (intro cs b h; cases h)); (case h1 => (intro w'; go_simp <;> exact rfl)))
    apply wpC_norm
    (case ha => (simp only [Act.put, List.setIfInBounds_toArray, List.set_cons_zero, List.set_cons_succ]; exact rfl))
    (apply wpC_det; (case hw => exact rfl); (case hs => (intro cs b h; cases h)); (case h1 => (intro w'; go_simp <;> exact rfl)))
    apply wpC_norm
    (case ha => (simp only [Act.put, List.setIfInBounds_toArray, List.set_cons_zero, List.set_cons_succ]; exact rfl))
    (apply wpC_callX P.b [Value.func (Fn.func 69) #[] #[Value.pointer (some ⟨w.heap.size + 1, 0, none⟩)], .float .f32 p, .slice q1 P.a.length d1, Value.func (Fn.func 69) #[] #[Value.pointer (some ⟨w.heap.size + 1, 0, none⟩)], .float .f32 p]; (case hox => (first | exact rfl | kernel_rfl)); (case hw => exact rfl); (case h1 => (intro w'; go_simp; exact ⟨rfl, rfl⟩)); (case hz => (intro w' hb hk0 z hz k hk; simp only [List.mem_cons, List.not_mem_nil, or_false] at hz; rcases hz with rfl | rfl | rfl | rfl | rfl <;> (first | cases hk | exact (OF.block (show OF _ _ _ _ ∧ ordV _ _ from hk0.1).1 k hk).2 | exact (OF.block (show OF _ _ _ _ ∧ ordV _ _ from hk0.2.1).1 k hk).2))); (case hc => (intro w' hb hk0; rw [HL.out.2.1]; exact HC.out p (w.heap.size + 1) w' (HC10.out w' hb))); intro q2 d2)
    apply wpC_norm
    (case ha => (simp only [Act.put, List.setIfInBounds_toArray, List.set_cons_zero, List.set_cons_succ]; exact rfl))
    (apply wpC_det; (case hw => exact rfl); (case hs => (intro cs b h; cases h)); (case h1 => (intro w'; go_simp <;> exact rfl)))
    apply wpC_norm
    (case ha => (simp only [Act.put, List.setIfInBounds_toArray, List.set_cons_zero, List.set_cons_succ]; exact rfl))
    (apply wpC_callX P.c [Value.func (Fn.func 69) #[] #[Value.pointer (some ⟨w.heap.size + 1, 0, none⟩)], .float .f32 0, .slice q2 P.b.length d2, Value.func (Fn.func 69) #[] #[Value.pointer (some ⟨w.heap.size + 1, 0, none⟩)]]; (case hox => (first | exact rfl | kernel_rfl)); (case hw => exact rfl); (case h1 => (intro w'; go_simp; exact ⟨rfl, rfl⟩)); (case hz => (intro w' hb hk0 z hz k hk; simp only [List.mem_cons, List.not_mem_nil, or_false] at hz; rcases hz with rfl | rfl | rfl | rfl <;> (first | cases hk | exact (OF.block (show OF _ _ _ _ ∧ ordV _ _ from hk0.1).1 k hk).2 | exact (OF.block (show OF _ _ _ _ ∧ ordV _ _ from hk0.2.1).1 k hk).2))); (case hc => (intro w' hb hk0; rw [HL.out.2.2.1]; exact HC.out 0 (w.heap.size + 1) w' (HC10.out w' hb))); intro q3 d3)
    apply wpC_norm
    (case ha => (simp only [Act.put, List.setIfInBounds_toArray, List.set_cons_zero, List.set_cons_succ]; exact rfl))
    (apply wpC_val; (case hw => exact rfl); (case h1 => (intro w' hb hk0; have h10 := HC10.out w' hb; go_simp <;> exact rfl)))
    apply wpC_norm
    (case ha => (simp only [Act.put, List.setIfInBounds_toArray, List.set_cons_zero, List.set_cons_succ]; exact rfl))
    (apply wpC_mkB P.d.length rfl; (case hx => (show Value.int .i64 (N : Int) = _; rw [HL.out.2.2.2, List.length_replicate])); (case hy => (show Value.int .i64 (N : Int) = _; rw [HL.out.2.2.2, List.length_replicate])); (case hn => (rw [HL.out.2.2.2, List.length_replicate]; have := HN.out; omega)); (case hw => exact rfl); intro b4)
    apply wpC_norm
    (case ha => (simp only [Act.put, List.setIfInBounds_toArray, List.set_cons_zero, List.set_cons_succ]; exact rfl))
    (apply wpC_bldP (R := P) (m := ⟨q1, d1, q2, d2, q3, d3, some ⟨b4, 0, none⟩, P.d.length⟩); (case hw => exact rfl); (case h1 => (intro w'; go_simp <;> exact rfl)); (case hk => (intro w' hb hk0; have k1 := (show OF _ _ _ P.a ∧ ordV _ _ from hk0.2.2.2.2.1); have k2 := (show OF _ _ _ P.b ∧ ordV _ _ from hk0.2.2.2.1); have k3 := (show OF _ _ _ P.c ∧ ordV _ _ from hk0.2.2.1); have k4 := (show OL _ _ _ (List.replicate P.d.length false) from hk0.1); exact pa_of k1.1 k2.1 k3.1 (by rw [show List.replicate P.d.length false = P.d by rw [HL.out.2.2.2, List.length_replicate]] at k4; exact k4) (by rw [HL.out.2.1, List.length_replicate]; exact HN.out.1) (fun k k' h h' => k2.2 _ (by simp) k k' h h') (fun k k' h h' => k3.2 _ (by simp) k k' h h'))); intro lb)
    apply wpC_norm
    (case ha => (simp only [Act.put, List.setIfInBounds_toArray, List.set_cons_zero, List.set_cons_succ]; exact rfl))
    (apply wpC_chkP (v0 := .agg #[.int .i64 P.W, .int .i64 P.H, .slice lb.p1 P.a.length lb.c1, .slice lb.p2 P.b.length lb.c2, .slice lb.p3 P.c.length lb.c3, .slice lb.p4 P.d.length lb.c4]); (case hx => exact rfl); (case hw => exact rfl); (case h1 => (intro w'; go_simp; exact ⟨rfl, rfl⟩)); (case hc => (intro w' hb hk0; exact checkedPl_yes P lb w' ((show ∀ u, plV P lb = plV P u → PA _ _ P u from hk0.1) _ rfl).1.fs HK.out)))
    apply wpC_norm
    (case ha => (simp only [Act.put, List.setIfInBounds_toArray, List.set_cons_zero, List.set_cons_succ]; exact rfl))
    (apply wpC_det; (case hw => exact rfl); (case hs => (intro cs b h; cases h)); (case h1 => (intro w'; go_simp <;> exact rfl)))
    apply wpC_norm
    (case ha => (simp only [Act.put, List.setIfInBounds_toArray, List.set_cons_zero, List.set_cons_succ]; exact rfl))
    (apply wpC_det; (case hw => exact rfl); (case hs => (intro cs b h; cases h)); (case h1 => (intro w'; go_simp <;> exact rfl)))
    apply wpC_norm
    (case ha => (simp only [Act.put, List.setIfInBounds_toArray, List.set_cons_zero, List.set_cons_succ]; exact rfl))
    refine wpC_tail (by kernel_rfl) (by first | rfl | kernel_rfl) ?_
    intro w4 hb hkk
    have hB4 := hb
    obtain ⟨⟨r0, r1, r2, r3, r4, r5⟩, rf⟩ := hr0.out
    have r0 := (hb.cell (p := ⟨w.heap.size, 0, none⟩) (by show w.heap.size < _; omega)).trans r0
    have r1 := (hb.cell (p := ⟨w.heap.size, 1, none⟩) (by show w.heap.size < _; omega)).trans r1
    have r2 := (hb.cell (p := ⟨w.heap.size, 2, none⟩) (by show w.heap.size < _; omega)).trans r2
    have r3 := (hb.cell (p := ⟨w.heap.size, 3, none⟩) (by show w.heap.size < _; omega)).trans r3
    have r4 := (hb.cell (p := ⟨w.heap.size, 4, none⟩) (by show w.heap.size < _; omega)).trans r4
    have r5 := (hb.cell (p := ⟨w.heap.size, 5, none⟩) (by show w.heap.size < _; omega)).trans r5
    have rf : ∀ o, w4.frozen? ⟨w.heap.size, o, none⟩ = false := fun o => (hb.frozen (p := ⟨w.heap.size, o, none⟩) (by show w.heap.size < _; omega)).trans (rf o)
    have HPA : Hid (PA w3.heap.size w4 P lb) := (show ∀ u, plV P lb = plV P u → PA _ _ P u from hkk.2.1) _ rfl
    have hz4 := hb.size
    have hT4 : Trk w4 [w.heap.size] := (Trk.nil w4).more (by omega)
    have HBW : Hid (Below w.heap.size w w4) := HB3.out.1.trans (hb.mono (by omega))
    clear hb hkk hT hc10 hc10f
    have hT := hT4
    have hbw := HBW.out
    go_wp2_with (first | (with_reducible refine at_list ?_; refine wpList_fop rfl rfl rfl rfl rfl ?_; intro r n hr0; have hr := hr0 _ _ (by first | with_reducible assumption | exact rfl) (by first | with_reducible assumption | exact rfl); clear hr0) | (with_reducible refine at_list ?_; refine wpList_neg rfl rfl rfl ?_; intro r hr0; have hr := hr0 _ (by first | with_reducible assumption | exact rfl); clear hr0) | (with_reducible refine at_list ?_; refine wpList_fop_g rfl rfl rfl rfl rfl ?_; intro r n hr0; have hr := hr0 _ _ (by first | with_reducible assumption | exact rfl) (by first | with_reducible assumption | exact rfl); clear hr0) | (with_reducible refine at_list ?_; refine wpList_wide_g rfl rfl Try.underlying33 Try.underlying37 rfl ?_; intro r n hr0; have hr := hr0 _ (by first | with_reducible assumption | exact rfl); clear hr0) | (with_reducible refine at_list ?_; refine wpList_wide rfl rfl rfl Try.underlying33 Try.underlying37 ?_; intro r n hr0; have hr := hr0 _ (by first | with_reducible assumption | exact rfl); clear hr0) | (go_at_call 54; refine (within_any _ _ _ _).mono ?_; rintro e w' ⟨rfl, n, rfl⟩))
    refine bodyPost_ret (v := .tuple #[.agg #[.int .i64 P.W, .int .i64 P.H, .slice lb.p1 P.a.length lb.c1, .slice lb.p2 P.b.length lb.c2, .slice lb.p3 P.c.length lb.c3, .slice lb.p4 P.d.length lb.c4], .bool true]) (by simp [results, Try.results30, go_sem, *]) rfl ?_
    refine ⟨lb, rfl, by (repeat (first | (with_reducible exact Below.refl _ _) | (with_reducible assumption) | (with_reducible refine below_then ?_ (by assumption)) | (with_reducible refine Below.trans ?_ (by assumption)) | (with_reducible refine below_drewN ?_ _) | (with_reducible apply Below.drew) | (with_reducible refine below_alloc ?_ _) | refine Below.setCell ?_ (by first | (simp; done) | (simp; omega)) _)), ?_⟩
    have hX := HPA.out.px (B' := w.heap.size + 1) (by omega)
    have hlt : ∀ j, (⟨w.heap.size, j, none⟩ : Addr).block < w.heap.size + 1 ∨ w4.heap.size ≤ (⟨w.heap.size, j, none⟩ : Addr).block := fun j => .inl (Nat.lt_succ_self _)
    exact PX.base (PX.setCell (PX.setCell (PX.setCell (PX.setCell (PX.setCell (PX.setCell hX (hlt _) _) (hlt _) _) (hlt _) _) (hlt _) _) (hlt _) _) (hlt _) _) (by omega) (by simp only [World.size_setCell]; omega)
    all_goals (first | kernel_rfl | rfl)
end Go.Proofs.Ythdmamcbceblpaa
