/-
  Plates of the call's own: their lists lie apart; marks in them. No condition but what each contract says.
-/
import Derived.Test.YtphamdlnnfionaaMk
import Derived.Test.YtphamdlnnfionaaPlIs
set_option linter.unusedSimpArgs false
set_option linter.unusedVariables false
set_option linter.unusedSectionVars false
namespace Go.Proofs.Ytphamdlnnfionaa
open Go Go.RowKit
open Go.ChangeShapes Go.WideShapes Go.ChangeAt Go.RowKit Go.Joins
def Ap (p q : Option Addr) : Prop := ∀ a b, p = some a → q = some b → a.block ≠ b.block
theorem Ap.of {p q : Option Addr} {n c m d s : Nat} (h1 : ∀ k, (Value.slice p n c).ownBlock = some k → k < s) (h2 : ∀ k, (Value.slice q m d).ownBlock = some k → s ≤ k) : Ap p q := by
  rintro a b rfl rfl
  have := h1 a.block rfl
  have := h2 b.block rfl
  omega
theorem Ap.row {p q : Option Addr} {n c m d : Nat} (h : Ap p q) : (Value.slice p n c).ownBlock = none ∨ (Value.slice p n c).ownBlock ≠ (Value.slice q m d).ownBlock := by
  cases p with
  | none => exact .inl rfl
  | some a =>
    refine .inr fun e => ?_
    cases q with
    | none => cases e
    | some b => exact h a b rfl rfl (by simpa [Value.ownBlock] using e)
theorem Ap.symm {p q : Option Addr} (h : Ap p q) : Ap q p := fun a b h1 h2 e => h b a h2 h1 e.symm
def BX (B S : Nat) (w : World) (u : Value) (xs : List Bool) : Prop := OL B w u xs ∧ ∀ k, u.ownBlock = some k → k < S
/-- A plate of the call's own. -/
def PX (B S : Nat) (w : World) (P : Pl) (l : Lay) : Prop :=
  (P.own B w l ∧ (∀ k, (Value.slice l.p1 P.a.length l.c1).ownBlock = some k → k < S) ∧ (∀ k, (Value.slice l.p2 P.b.length l.c2).ownBlock = some k → k < S) ∧ (∀ k, (Value.slice l.p3 P.c.length l.c3).ownBlock = some k → k < S) ∧ ∀ k, (Value.slice l.p4 P.d.length l.c4).ownBlock = some k → k < S) ∧
    Ap l.p1 l.p2 ∧ Ap l.p1 l.p3 ∧ Ap l.p1 l.p4 ∧ Ap l.p2 l.p3 ∧ Ap l.p2 l.p4 ∧ Ap l.p3 l.p4
section
variable {B S : Nat} {w w' : World} {P : Pl} {l : Lay}
theorem PX.mk' (y : P.own B w l) (x12 : Ap l.p1 l.p2) (x13 : Ap l.p1 l.p3) (x14 : Ap l.p1 l.p4) (x23 : Ap l.p2 l.p3) (x24 : Ap l.p2 l.p4) (x34 : Ap l.p3 l.p4) : PX B w.heap.size w P l :=
  ⟨⟨y, fun k hk => (OF.block y.1 k hk).2, fun k hk => (OF.block y.2.1 k hk).2, fun k hk => (OF.block y.2.2.1 k hk).2, fun k hk => (OL.block y.2.2.2 k hk).2⟩, x12, x13, x14, x23, x24, x34⟩
theorem PX.own (h : PX B S w P l) : P.own B w l := h.1.1
theorem PX.fs (h : PX B S w P l) : P.fs w l := h.1.1.fs
theorem PX.later (h : PX B S w P l) (hb : Below w.heap.size w w') : PX B S w' P l := ⟨⟨h.1.1.later hb, h.1.2⟩, h.2⟩
theorem PX.alloc (h : PX B S w P l) (o : Obj) : PX B S (w.alloc o) P l := ⟨⟨h.1.1.alloc o, h.1.2⟩, h.2⟩
theorem PX.drewN (h : PX B S w P l) (m : Nat) : PX B S (w.drewN m) P l := ⟨⟨h.1.1.drewN m, h.1.2⟩, h.2⟩
theorem PX.setCell (h : PX B S w P l) {a : Addr} (ha : a.block < B ∨ S ≤ a.block) (v : Value) : PX B S (w.setCell a v) P l :=
  ⟨⟨⟨(RX.setCell ⟨h.1.1.1, h.1.2.1⟩ ha v).1, (RX.setCell ⟨h.1.1.2.1, h.1.2.2.1⟩ ha v).1, (RX.setCell ⟨h.1.1.2.2.1, h.1.2.2.2.1⟩ ha v).1, (RX.setCell ⟨h.1.1.2.2.2, h.1.2.2.2.2⟩ ha v).1⟩, h.1.2⟩, h.2⟩
theorem PX.turn {B' S' : Nat} (h : PX B S w P l) (hg : Turn B' S' w w') (hd : S ≤ B' ∨ S' ≤ B) : PX B S w' P l :=
  ⟨⟨⟨(RX.turn ⟨h.1.1.1, h.1.2.1⟩ hg hd).1, (RX.turn ⟨h.1.1.2.1, h.1.2.2.1⟩ hg hd).1, (RX.turn ⟨h.1.1.2.2.1, h.1.2.2.2.1⟩ hg hd).1, (RX.turn ⟨h.1.1.2.2.2, h.1.2.2.2.2⟩ hg hd).1⟩, h.1.2⟩, h.2⟩
theorem PlAt.grown {b o : Nat} {row : Option Nat} (h : PlAt P l w b o) (hg : w.grownBy w' row) (hne : some b ≠ row) : PlAt P l w' b o :=
  ⟨hg.cell h.1 hne, hg.cell h.2.1 hne, hg.cell h.2.2.1 hne, hg.cell h.2.2.2.1 hne, hg.cell h.2.2.2.2.1 hne, hg.cell h.2.2.2.2.2 hne⟩
end
/-- A plate with marks. -/
def mkPl (P : Pl) (k : Int) : Pl := ⟨P.W, P.H, marks k P.a.length, marks (k + P.a.length) P.b.length, marks (k + P.a.length + P.b.length) P.c.length, marksB (k + P.a.length + P.b.length + P.c.length) P.d.length⟩
def Pl.sum (P : Pl) (k : Int) : Int := k + P.a.length + P.b.length + P.c.length + P.d.length
theorem mkPl_px {B S : Nat} {w : World} {P : Pl} {l : Lay} {k : Int} (h : PX B S w (mkPl P k) l) :
    FS w (.slice l.p1 P.a.length l.c1) (marks k P.a.length) ∧ FS w (.slice l.p2 P.b.length l.c2) (marks (k + P.a.length) P.b.length) ∧ FS w (.slice l.p3 P.c.length l.c3) (marks (k + P.a.length + P.b.length) P.c.length) ∧ BS w (.slice l.p4 P.d.length l.c4) (marksB (k + P.a.length + P.b.length + P.c.length) P.d.length) := by
  obtain ⟨h1, h2, h3, h4⟩ := h.fs
  simp only [mkPl, marks_length, marksB_length] at h1 h2 h3 h4
  exact ⟨h1, h2, h3, h4⟩
set_option maxHeartbeats 2000000 in
theorem markPlate_any (B S : Nat) (P : Pl) (l : Lay) (k0 : Int) (w : World) (hs : PX B S w P l) (hS : S ≤ w.heap.size) (hk : 0 ≤ k0 ∧ k0 ≤ 8) (hn : P.size ≤ 1048576) : Calls Try.prog 15 #[.agg #[.int .i64 P.W, .int .i64 P.H, .slice l.p1 P.a.length l.c1, .slice l.p2 P.b.length l.c2, .slice l.p3 P.c.length l.c3, .slice l.p4 P.d.length l.c4], .int .i64 k0] w (fun e w' => e = .returned (.int .i64 (P.sum k0)) ∧ Turn B S w w' ∧ w.heap.size ≤ w'.heap.size ∧ PX B S w' (mkPl P k0) l) := by
  have HS := Lib.hid hs
  have HZ : Hid (P.sum k0 = k0 + P.a.length + P.b.length + P.c.length + P.d.length) := rfl
  obtain ⟨⟨⟨o1, o2, o3, o4⟩, s1, s2, s3, s4⟩, a12, a13, a14, a23, a24, a34⟩ := hs
  unfold Pl.size at hn
  have O1 := Lib.hid (o1.alloc (.cells #[.int .i64 P.W, .int .i64 P.H, .slice l.p1 P.a.length l.c1, .slice l.p2 P.b.length l.c2, .slice l.p3 P.c.length l.c3, .slice l.p4 P.d.length l.c4] 30))
  have O2 := Lib.hid (o2.alloc (.cells #[.int .i64 P.W, .int .i64 P.H, .slice l.p1 P.a.length l.c1, .slice l.p2 P.b.length l.c2, .slice l.p3 P.c.length l.c3, .slice l.p4 P.d.length l.c4] 30))
  have O3 := Lib.hid (o3.alloc (.cells #[.int .i64 P.W, .int .i64 P.H, .slice l.p1 P.a.length l.c1, .slice l.p2 P.b.length l.c2, .slice l.p3 P.c.length l.c3, .slice l.p4 P.d.length l.c4] 30))
  have O4 := Lib.hid (o4.alloc (.cells #[.int .i64 P.W, .int .i64 P.H, .slice l.p1 P.a.length l.c1, .slice l.p2 P.b.length l.c2, .slice l.p3 P.c.length l.c3, .slice l.p4 P.d.length l.c4] 30))
  have r1 : some w.heap.size ≠ (Value.slice l.p1 P.a.length l.c1).ownBlock := fun e => by have := s1 _ e.symm; omega
  have r2 : some w.heap.size ≠ (Value.slice l.p2 P.b.length l.c2).ownBlock := fun e => by have := s2 _ e.symm; omega
  have r3 : some w.heap.size ≠ (Value.slice l.p3 P.c.length l.c3).ownBlock := fun e => by have := s3 _ e.symm; omega
  have t1 := Lib.hid (fun w w' (hg : World.grownBy w w' (Value.slice l.p1 P.a.length l.c1).ownBlock) => Turn.of hg (fun k hk => ⟨(OF.block o1 k hk).1, s1 k hk⟩))
  have t2 := Lib.hid (fun w w' (hg : World.grownBy w w' (Value.slice l.p2 P.b.length l.c2).ownBlock) => Turn.of hg (fun k hk => ⟨(OF.block o2 k hk).1, s2 k hk⟩))
  have t3 := Lib.hid (fun w w' (hg : World.grownBy w w' (Value.slice l.p3 P.c.length l.c3).ownBlock) => Turn.of hg (fun k hk => ⟨(OF.block o3 k hk).1, s3 k hk⟩))
  have t4 := Lib.hid (fun w w' (hg : World.grownBy w w' (Value.slice l.p4 P.d.length l.c4).ownBlock) => Turn.of hg (fun k hk => ⟨(OL.block o4 k hk).1, s4 k hk⟩))
  have HR := Lib.hid r1
  have HR2 := Lib.hid r2
  have HR3 := Lib.hid r3
  clear r1 r2 r3 o1 o2 o3 o4 s1 s2 s3 s4
  go_enter Try.func15, Try.ntmps15
  go_wp2_with fail
  have hat : Hid (PlAt P l (w.alloc (.cells #[.int .i64 P.W, .int .i64 P.H, .slice l.p1 P.a.length l.c1, .slice l.p2 P.b.length l.c2, .slice l.p3 P.c.length l.c3, .slice l.p4 P.d.length l.c4] 30)) w.heap.size 0) := (by unfold PlAt; refine ⟨?_, ?_, ?_, ?_, ?_, ?_⟩ <;> go_simp)
  refine (markF2_any B P.a _ k0 _ O1.out (by omega) (by omega)).mono ?_
  rintro e w1 ⟨rfl, hg1, hz1, hO1⟩
  have T1 := Lib.hid (((Turn.refl B S w).alloc _).trans (t1.out _ _ hg1))
  have hat1 := Lib.hid (hat.out.grown hg1 HR.out)
  have P2 := Lib.hid (O2.out.kept hg1 a12.symm.row)
  have P3 := Lib.hid (O3.out.kept hg1 a13.symm.row)
  have P4 := Lib.hid (O4.out.kept hg1 a14.symm.row)
  have Q1 := Lib.hid hO1
  obtain ⟨g0, g1, g2, g3, g4, g5⟩ := hat1.out
  simp only [Nat.zero_add] at g0 g1 g2 g3 g4 g5
  clear hg1 hO1
  go_wp2_with fail
  refine (markF2_any B P.b _ (k0 + P.a.length) _ P2.out (by omega) (by omega)).mono ?_
  rintro e w2 ⟨rfl, hg2, hz2, hO2⟩
  clear g0 g1 g2 g3 g4 g5
  have T2 := Lib.hid (T1.out.trans (t2.out _ _ hg2))
  have hat2 := Lib.hid (hat1.out.grown hg2 HR2.out)
  have R1 := Lib.hid (Q1.out.kept hg2 (by have := a12.row (n := P.a.length) (c := l.c1) (m := P.b.length) (d := l.c2); exact this))
  have R3 := Lib.hid (P3.out.kept hg2 a23.symm.row)
  have R4 := Lib.hid (P4.out.kept hg2 a24.symm.row)
  have R2 := Lib.hid hO2
  obtain ⟨g0, g1, g2, g3, g4, g5⟩ := hat2.out
  simp only [Nat.zero_add] at g0 g1 g2 g3 g4 g5
  clear hg2 hO2
  go_wp2_with fail
  refine (markF2_any B P.c _ (k0 + P.a.length + P.b.length) _ R3.out (by omega) (by omega)).mono ?_
  rintro e w3 ⟨rfl, hg3, hz3, hO3⟩
  clear g0 g1 g2 g3 g4 g5
  have T3 := Lib.hid (T2.out.trans (t3.out _ _ hg3))
  have hat3 := Lib.hid (hat2.out.grown hg3 HR3.out)
  have U1 := Lib.hid (R1.out.kept hg3 (by have := a13.row (n := P.a.length) (c := l.c1) (m := P.c.length) (d := l.c3); exact this))
  have U2 := Lib.hid (R2.out.kept hg3 (by have := a23.row (n := P.b.length) (c := l.c2) (m := P.c.length) (d := l.c3); exact this))
  have U4 := Lib.hid (R4.out.kept hg3 a34.symm.row)
  have U3 := Lib.hid hO3
  obtain ⟨g0, g1, g2, g3, g4, g5⟩ := hat3.out
  simp only [Nat.zero_add] at g0 g1 g2 g3 g4 g5
  clear hg3 hO3
  go_wp2_with fail
  refine (markB_any B P.d _ (k0 + P.a.length + P.b.length + P.c.length) _ U4.out (by omega) (by omega)).mono ?_
  rintro e w4 ⟨rfl, hg4, hz4, hO4⟩
  clear g0 g1 g2 g3 g4 g5
  have T4 := Lib.hid (T3.out.trans (t4.out _ _ hg4))
  have V1 := Lib.hid (U1.out.kept hg4 (by have := a14.row (n := P.a.length) (c := l.c1) (m := P.d.length) (d := l.c4); exact this))
  have V2 := Lib.hid (U2.out.kept hg4 (by have := a24.row (n := P.b.length) (c := l.c2) (m := P.d.length) (d := l.c4); exact this))
  have V3 := Lib.hid (U3.out.kept hg4 (by have := a34.row (n := P.c.length) (c := l.c3) (m := P.d.length) (d := l.c4); exact this))
  have V4 := Lib.hid hO4
  clear hg4 hO4
  go_wp2_with fail
  go_ret
  refine ⟨by rw [HZ.out]; rfl, T4.out, T4.out.size, ⟨⟨⟨?_, ?_, ?_, ?_⟩, ?_⟩, HS.out.2⟩⟩
  · simpa only [mkPl, marks_length] using V1.out
  · simpa only [mkPl, marks_length] using V2.out
  · simpa only [mkPl, marks_length] using V3.out
  · simpa only [mkPl, marksB_length] using V4.out
  · simpa only [mkPl, marks_length, marksB_length] using HS.out.1.2
set_option maxHeartbeats 2000000 in
theorem toPlateX_any (P : Pl) (l : Lay) (w : World) (hs : P.fs w l) (hn : P.size ≤ 1048576) : Calls Try.prog 9 #[.agg #[.int .i64 P.W, .int .i64 P.H, .slice l.p1 P.a.length l.c1, .slice l.p2 P.b.length l.c2, .slice l.p3 P.c.length l.c3, .slice l.p4 P.d.length l.c4]] w (fun e w' => ∃ lq, e = .returned (.agg #[.int .i64 P.W, .int .i64 P.H, .slice lq.p1 P.a.length lq.c1, .slice lq.p2 P.b.length lq.c2, .slice lq.p3 P.c.length lq.c3, .slice lq.p4 P.d.length lq.c4]) ∧ Below w.heap.size w w' ∧ PX w.heap.size w'.heap.size w' P lq) := by
  have HS := Lib.hid hs
  have HN : Hid (P.a.length ≤ 1048576 ∧ P.b.length ≤ 1048576 ∧ P.c.length ≤ 1048576 ∧ P.d.length ≤ 1048576) := by unfold Pl.size at hn; exact ⟨by omega, by omega, by omega, by omega⟩
  clear hs hn
  go_enter Try.func9, Try.ntmps9
  go_wp2_with (first | (with_reducible refine at_list ?_; refine wpList_fop rfl rfl rfl rfl rfl ?_; intro r n hr0; have hr := hr0 _ _ (by first | with_reducible assumption | exact rfl) (by first | with_reducible assumption | exact rfl); clear hr0) | (with_reducible refine at_list ?_; refine wpList_neg rfl rfl rfl ?_; intro r hr0; have hr := hr0 _ (by first | with_reducible assumption | exact rfl); clear hr0) | (with_reducible refine at_list ?_; refine wpList_fop_g rfl rfl rfl rfl rfl ?_; intro r n hr0; have hr := hr0 _ _ (by first | with_reducible assumption | exact rfl) (by first | with_reducible assumption | exact rfl); clear hr0) | (with_reducible refine at_list ?_; refine wpList_wide_g rfl rfl Try.underlying26 Try.underlying54 rfl ?_; intro r n hr0; have hr := hr0 _ (by first | with_reducible assumption | exact rfl); clear hr0) | (with_reducible refine at_list ?_; refine wpList_wide rfl rfl rfl Try.underlying26 Try.underlying54 ?_; intro r n hr0; have hr := hr0 _ (by first | with_reducible assumption | exact rfl); clear hr0) | (go_at_call_of 34 (Value.slice l.p1 P.a.length l.c1); refine (toF_any P.a _ _ (HS.out.1.later (by (repeat (first | (with_reducible exact Below.refl _ _) | (with_reducible assumption) | (with_reducible refine below_then ?_ (by assumption)) | (with_reducible refine Below.trans ?_ (by assumption)) | (with_reducible refine below_drewN ?_ _) | (with_reducible apply Below.drew) | (with_reducible refine below_alloc ?_ _) | refine Below.setCell ?_ (by first | (simp; done) | (simp; omega)) _)))) HN.out.1).mono ?_; rintro e w' ⟨u, rfl, hb, hO1⟩; obtain ⟨pa, ca, rfl⟩ := OF.shape hO1; (try simp only [World.size_alloc, World.size_setCell, World.size_drew, World.drewN] at hO1); obtain ⟨hT, hk⟩ := bv_next hb (by (repeat (with_reducible first | assumption | apply Trk.alloc | apply Trk.setCell | apply Trk.drewN | apply Trk.drew | exact Trk.nil _))); simp only [SameOn, World.size_alloc, World.size_setCell, World.size_drew, size_drewN', and_true] at hk; have hsz := Below.size hb; (try simp only [World.size_alloc, World.size_setCell, World.size_drew, size_drewN'] at hsz)) | (go_at_call_of 34 (Value.slice l.p2 P.b.length l.c2); refine (toF_any P.b _ _ (HS.out.2.1.later (by (repeat (first | (with_reducible exact Below.refl _ _) | (with_reducible assumption) | (with_reducible refine below_then ?_ (by assumption)) | (with_reducible refine Below.trans ?_ (by assumption)) | (with_reducible refine below_drewN ?_ _) | (with_reducible apply Below.drew) | (with_reducible refine below_alloc ?_ _) | refine Below.setCell ?_ (by first | (simp; done) | (simp; omega)) _)))) HN.out.2.1).mono ?_; rintro e w' ⟨u, rfl, hb, hO2⟩; obtain ⟨pb, cb, rfl⟩ := OF.shape hO2; (try simp only [World.size_alloc, World.size_setCell, World.size_drew, World.drewN] at hO2); obtain ⟨hT, hk⟩ := bv_next hb (by (repeat (with_reducible first | assumption | apply Trk.alloc | apply Trk.setCell | apply Trk.drewN | apply Trk.drew | exact Trk.nil _))); simp only [SameOn, World.size_alloc, World.size_setCell, World.size_drew, size_drewN', and_true] at hk; have hsz := Below.size hb; (try simp only [World.size_alloc, World.size_setCell, World.size_drew, size_drewN'] at hsz)) | (go_at_call_of 34 (Value.slice l.p3 P.c.length l.c3); refine (toF_any P.c _ _ (HS.out.2.2.1.later (by (repeat (first | (with_reducible exact Below.refl _ _) | (with_reducible assumption) | (with_reducible refine below_then ?_ (by assumption)) | (with_reducible refine Below.trans ?_ (by assumption)) | (with_reducible refine below_drewN ?_ _) | (with_reducible apply Below.drew) | (with_reducible refine below_alloc ?_ _) | refine Below.setCell ?_ (by first | (simp; done) | (simp; omega)) _)))) HN.out.2.2.1).mono ?_; rintro e w' ⟨u, rfl, hb, hO3⟩; obtain ⟨pc, cc, rfl⟩ := OF.shape hO3; (try simp only [World.size_alloc, World.size_setCell, World.size_drew, World.drewN] at hO3); obtain ⟨hT, hk⟩ := bv_next hb (by (repeat (with_reducible first | assumption | apply Trk.alloc | apply Trk.setCell | apply Trk.drewN | apply Trk.drew | exact Trk.nil _))); simp only [SameOn, World.size_alloc, World.size_setCell, World.size_drew, size_drewN', and_true] at hk; have hsz := Below.size hb; (try simp only [World.size_alloc, World.size_setCell, World.size_drew, size_drewN'] at hsz)) | (go_at_call_of 35 (Value.slice l.p4 P.d.length l.c4); refine (toB_any P.d _ _ (HS.out.2.2.2.later (by (repeat (first | (with_reducible exact Below.refl _ _) | (with_reducible assumption) | (with_reducible refine below_then ?_ (by assumption)) | (with_reducible refine Below.trans ?_ (by assumption)) | (with_reducible refine below_drewN ?_ _) | (with_reducible apply Below.drew) | (with_reducible refine below_alloc ?_ _) | refine Below.setCell ?_ (by first | (simp; done) | (simp; omega)) _)))) HN.out.2.2.2).mono ?_; rintro e w' ⟨u, rfl, hb, hO4⟩; obtain ⟨pd, cd, rfl⟩ := OL.shape hO4; (try simp only [World.size_alloc, World.size_setCell, World.size_drew, World.drewN] at hO4); obtain ⟨hT, hk⟩ := bv_next hb (by (repeat (with_reducible first | assumption | apply Trk.alloc | apply Trk.setCell | apply Trk.drewN | apply Trk.drew | exact Trk.nil _))); simp only [SameOn, World.size_alloc, World.size_setCell, World.size_drew, size_drewN', and_true] at hk; have hsz := Below.size hb; (try simp only [World.size_alloc, World.size_setCell, World.size_drew, size_drewN'] at hsz)) | (go_at_call 34; refine ((toF_any P.a _ _ (HS.out.1.later (by (repeat (first | (with_reducible exact Below.refl _ _) | (with_reducible assumption) | (with_reducible refine below_then ?_ (by assumption)) | (with_reducible refine Below.trans ?_ (by assumption)) | (with_reducible refine below_drewN ?_ _) | (with_reducible apply Below.drew) | (with_reducible refine below_alloc ?_ _) | refine Below.setCell ?_ (by first | (simp; done) | (simp; omega)) _)))) HN.out.1) ).mono ?_; rintro e w' ⟨u, rfl, hb, hO⟩; obtain ⟨pu, cu, rfl⟩ := OF.shape hO; (try simp only [World.size_alloc, World.size_setCell, World.size_drew, World.drewN] at hO); obtain ⟨hT, hk⟩ := bv_next hb (by (repeat (with_reducible first | assumption | apply Trk.alloc | apply Trk.setCell | apply Trk.drewN | apply Trk.drew | exact Trk.nil _))); simp only [SameOn, World.size_alloc, World.size_setCell, World.size_drew, size_drewN', and_true] at hk; have hsz := Below.size hb; (try simp only [World.size_alloc, World.size_setCell, World.size_drew, size_drewN'] at hsz)) | (go_at_call 35; refine (toB_any _ _ _ (by assumption) (by assumption)).mono ?_; rintro e w' ⟨u, rfl, hb, hO⟩; obtain ⟨pu, cu, rfl⟩ := OF.shape hO; (try simp only [World.size_alloc, World.size_setCell, World.size_drew, World.drewN] at hO); obtain ⟨hT, hk⟩ := bv_next hb (by (repeat (with_reducible first | assumption | apply Trk.alloc | apply Trk.setCell | apply Trk.drewN | apply Trk.drew | exact Trk.nil _))); simp only [SameOn, World.size_alloc, World.size_setCell, World.size_drew, size_drewN', and_true] at hk; have hsz := Below.size hb; (try simp only [World.size_alloc, World.size_setCell, World.size_drew, size_drewN'] at hsz)))
  have x12 : Ap pa pb := Ap.of (fun k hk => (OF.block hO1 k hk).2) (fun k hk => Nat.le_trans (by first | omega | (simp; done) | (simp; omega)) (OF.block hO2 k hk).1)
  have x13 : Ap pa pc := Ap.of (fun k hk => (OF.block hO1 k hk).2) (fun k hk => Nat.le_trans (by first | omega | (simp; done) | (simp; omega)) (OF.block hO3 k hk).1)
  have x14 : Ap pa pd := Ap.of (fun k hk => (OF.block hO1 k hk).2) (fun k hk => Nat.le_trans (by first | omega | (simp; done) | (simp; omega)) (OL.block hO4 k hk).1)
  have x23 : Ap pb pc := Ap.of (fun k hk => (OF.block hO2 k hk).2) (fun k hk => Nat.le_trans (by first | omega | (simp; done) | (simp; omega)) (OF.block hO3 k hk).1)
  have x24 : Ap pb pd := Ap.of (fun k hk => (OF.block hO2 k hk).2) (fun k hk => Nat.le_trans (by first | omega | (simp; done) | (simp; omega)) (OL.block hO4 k hk).1)
  have x34 : Ap pc pd := Ap.of (fun k hk => (OF.block hO3 k hk).2) (fun k hk => Nat.le_trans (by first | omega | (simp; done) | (simp; omega)) (OL.block hO4 k hk).1)
  refine bodyPost_ret (v := .agg #[.int .i64 P.W, .int .i64 P.H, .slice pa P.a.length ca, .slice pb P.b.length cb, .slice pc P.c.length cc, .slice pd P.d.length cd]) (by simp [results, Try.results9, go_sem, *]) rfl ?_
  exact ⟨⟨pa, ca, pb, cb, pc, cc, pd, cd⟩, rfl, by (repeat (first | (with_reducible exact Below.refl _ _) | (with_reducible assumption) | (with_reducible refine below_then ?_ (by assumption)) | (with_reducible refine Below.trans ?_ (by assumption)) | (with_reducible refine below_drewN ?_ _) | (with_reducible apply Below.drew) | (with_reducible refine below_alloc ?_ _) | refine Below.setCell ?_ (by first | (simp; done) | (simp; omega)) _)), PX.mk' ⟨(OF.base (by (repeat' (first | (with_reducible assumption) | (with_reducible apply OF.setCell) | (with_reducible apply OF.alloc) | (with_reducible apply OF.later; rotate_left; with_reducible assumption) | (with_reducible apply OF.kept; rotate_left; with_reducible assumption; first | (exact OF.sep (by with_reducible assumption) (by with_reducible assumption) (by omega)) | (exact OF.sep' (by with_reducible assumption) (by with_reducible assumption) (by omega))) | (with_reducible apply OF.drewN))) <;> (first | omega | (simp; done) | (simp; omega))) (by first | omega | (simp; done) | (simp; omega))), (OF.base (by (repeat' (first | (with_reducible assumption) | (with_reducible apply OF.setCell) | (with_reducible apply OF.alloc) | (with_reducible apply OF.later; rotate_left; with_reducible assumption) | (with_reducible apply OF.kept; rotate_left; with_reducible assumption; first | (exact OF.sep (by with_reducible assumption) (by with_reducible assumption) (by omega)) | (exact OF.sep' (by with_reducible assumption) (by with_reducible assumption) (by omega))) | (with_reducible apply OF.drewN))) <;> (first | omega | (simp; done) | (simp; omega))) (by first | omega | (simp; done) | (simp; omega))), (OF.base (by (repeat' (first | (with_reducible assumption) | (with_reducible apply OF.setCell) | (with_reducible apply OF.alloc) | (with_reducible apply OF.later; rotate_left; with_reducible assumption) | (with_reducible apply OF.kept; rotate_left; with_reducible assumption; first | (exact OF.sep (by with_reducible assumption) (by with_reducible assumption) (by omega)) | (exact OF.sep' (by with_reducible assumption) (by with_reducible assumption) (by omega))) | (with_reducible apply OF.drewN))) <;> (first | omega | (simp; done) | (simp; omega))) (by first | omega | (simp; done) | (simp; omega))), (OL.base (by (repeat' (first | (with_reducible assumption) | (with_reducible apply OL.setCell) | (with_reducible apply OL.alloc) | (with_reducible apply OL.later; rotate_left; with_reducible assumption) | (with_reducible apply OL.kept; rotate_left; with_reducible assumption; first | (exact OL.sep (by with_reducible assumption) (by with_reducible assumption) (by omega)) | (exact OL.sep' (by with_reducible assumption) (by with_reducible assumption) (by omega))) | (with_reducible apply OL.drewN))) <;> (first | omega | (simp; done) | (simp; omega))) (by first | omega | (simp; done) | (simp; omega)))⟩ x12 x13 x14 x23 x24 x34⟩
end Go.Proofs.Ytphamdlnnfionaa
