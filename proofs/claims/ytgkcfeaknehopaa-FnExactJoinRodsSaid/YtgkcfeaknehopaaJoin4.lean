/-
  Rods that are joined: the reference's way. No condition but what each contract says.
-/
import Derived.Test.YtgkcfeaknehopaaJoin3
set_option linter.unusedSimpArgs false
set_option linter.unusedVariables false
set_option linter.unusedSectionVars false
namespace Go.Proofs.Ytgkcfeaknehopaa
open Go Go.RowKit
open Go.ChangeShapes Go.WideShapes Go.ChangeAt Go.RowKit Go.Joins
theorem ok_lens {P : Rd} (h : P.ok = true) : (1 ≤ P.a.length ∧ P.a.length ≤ 1048576) ∧ (1 ≤ P.b.length ∧ P.b.length ≤ 1048576) ∧ (1 ≤ P.c.length ∧ P.c.length ≤ 1048576) ∧ 1 ≤ P.d.length ∧ P.d.length ≤ 1048576 := by
  have := Rd.ok_len h
  exact ⟨⟨by omega, by omega⟩, ⟨by omega, by omega⟩, ⟨by omega, by omega⟩, by omega, by omega⟩
theorem cells4 {B g : Nat} {w w' : World} {R : Rd} {m : RL} {v : Value} (h : JS B g w R m) (hg : w.grownBy w' v.ownBlock) (hn : v.ownBlock ≠ some g) : RdAt R m w' g 0 ∧ ∀ o, w'.frozen? ⟨g, o, none⟩ = false :=
  ⟨⟨(cell_stepped hg h.1.2.2.2 hn).trans h.1.2.1.1, (cell_stepped hg h.1.2.2.2 hn).trans h.1.2.1.2.1, (cell_stepped hg h.1.2.2.2 hn).trans h.1.2.1.2.2.1, (cell_stepped hg h.1.2.2.2 hn).trans h.1.2.1.2.2.2⟩, fun o => (frozen_stepped hg h.1.2.2.2 hn).trans (h.1.2.2.1 o)⟩
def ZAt (w : World) (b : Nat) : Prop := w.cell? ⟨b, 0, none⟩ = some (.slice none 0 0) ∧ w.cell? ⟨b, 1, none⟩ = some (.slice none 0 0) ∧ w.cell? ⟨b, 2, none⟩ = some (.slice none 0 0) ∧ w.cell? ⟨b, 3, none⟩ = some (.slice none 0 0) ∧ ∀ o, w.frozen? ⟨b, o, none⟩ = false
theorem ZAt.later {w w' : World} {b B : Nat} (h : ZAt w b) (hb : Below B w w') (hB : b < B) : ZAt w' b :=
  ⟨(World.cell?_of_block (hb.block b hB)).trans h.1, (World.cell?_of_block (hb.block b hB)).trans h.2.1, (World.cell?_of_block (hb.block b hB)).trans h.2.2.1, (World.cell?_of_block (hb.block b hB)).trans h.2.2.2.1, fun o => (World.frozen?_of_block (hb.block b hB)).trans (h.2.2.2.2 o)⟩
theorem Calls_named {P : Program} {f : FuncId} {args : Array Value} {w : World} {Q : Ending → World → Prop} (h : ∀ ws, ws = w → Calls P f args ws Q) : Calls P f args w Q := h w rfl
set_option maxHeartbeats 8000000 in
set_option maxRecDepth 100000 in
theorem specJoin_any (P Q : Rd) (l m : RL) (w : World) (hs : P.fs w l) (ht : Q.fs w m) : Calls Try.prog 19 #[.agg #[.slice l.p1 P.a.length l.c1, .slice l.p2 P.b.length l.c2, .slice l.p3 P.c.length l.c3, .slice l.p4 P.d.length l.c4], .agg #[.slice m.p1 Q.a.length m.c1, .slice m.p2 Q.b.length m.c2, .slice m.p3 Q.c.length m.c3, .slice m.p4 Q.d.length m.c4]] w (BRB w (if joinOk P Q then joinR P Q else nilRd) (joinOk P Q)) := by
  obtain ⟨J, hJ⟩ : ∃ J, J = (if joinOk P Q then joinR P Q else nilRd) := ⟨_, rfl⟩
  rw [← hJ]
  have HS := Lib.hid hs
  have HT := Lib.hid ht
  have HV := Lib.hid (fun b o w h1 h2 => l02Is_any P l b o w h1 h2)
  have HV2 := Lib.hid (fun b o w h1 h2 => l02Is_any Q m b o w h1 h2)
  rcases f1 : P.ok
  · rw [f1] at HV
    have HO : Hid (joinOk P Q = false) := by show _ = _; simp [joinOk, f1]
    have HJ : Hid (J = nilRd) := by show _ = _; rw [hJ, HO.out]; rfl
    clear hs ht hJ
    go_enter Try.func19, Try.ntmps19
    go_wp2_with (first | (with_reducible refine at_list ?_; refine wpList_fop rfl rfl rfl rfl rfl ?_; intro r n hr0; have hr := hr0 _ _ (by first | with_reducible assumption | exact rfl) (by first | with_reducible assumption | exact rfl); clear hr0) | (with_reducible refine at_list ?_; refine wpList_neg rfl rfl rfl ?_; intro r hr0; have hr := hr0 _ (by first | with_reducible assumption | exact rfl); clear hr0) | (with_reducible refine at_list ?_; refine wpList_fop_g rfl rfl rfl rfl rfl ?_; intro r n hr0; have hr := hr0 _ _ (by first | with_reducible assumption | exact rfl) (by first | with_reducible assumption | exact rfl); clear hr0) | (with_reducible refine at_list ?_; refine wpList_wide_g rfl rfl Try.underlying25 Try.underlying32 rfl ?_; intro r n hr0; have hr := hr0 _ (by first | with_reducible assumption | exact rfl); clear hr0) | (with_reducible refine at_list ?_; refine wpList_wide rfl rfl rfl Try.underlying25 Try.underlying32 ?_; intro r n hr0; have hr := hr0 _ (by first | with_reducible assumption | exact rfl); clear hr0) | (go_at_call_of 48 (Value.pointer (some (Addr.mk w.heap.size 0 none))); refine ((HV.out _ _ _ (by unfold RdAt; refine ⟨?_, ?_, ?_, ?_⟩ <;> go_simp) (HS.out.later (by (repeat (first | (with_reducible exact Below.refl _ _) | (with_reducible assumption) | (with_reducible refine below_then ?_ (by assumption)) | (with_reducible refine Below.trans ?_ (by assumption)) | (with_reducible refine below_drewN ?_ _) | (with_reducible apply Below.drew) | (with_reducible refine below_alloc ?_ _) | refine Below.setCell ?_ (by first | (simp; done) | (simp; omega)) _))))) ).mono ?_; rintro e w' ⟨rfl, n, rfl⟩) | (go_at_call 48; refine ((HV2.out _ _ _ (by unfold RdAt; refine ⟨?_, ?_, ?_, ?_⟩ <;> go_simp) (HT.out.later (by (repeat (first | (with_reducible exact Below.refl _ _) | (with_reducible assumption) | (with_reducible refine below_then ?_ (by assumption)) | (with_reducible refine Below.trans ?_ (by assumption)) | (with_reducible refine below_drewN ?_ _) | (with_reducible apply Below.drew) | (with_reducible refine below_alloc ?_ _) | refine Below.setCell ?_ (by first | (simp; done) | (simp; omega)) _))))) ).mono ?_; rintro e w' ⟨rfl, n, rfl⟩))
    all_goals
      refine bodyPost_ret (v := .tuple #[.agg #[.slice none 0 0, .slice none 0 0, .slice none 0 0, .slice none 0 0], .bool false]) (by simp [results, Try.results19, go_sem, *]) rfl ?_
      rw [HJ.out, HO.out]
      exact ⟨nilRL, rfl, by (repeat (first | (with_reducible exact Below.refl _ _) | (with_reducible assumption) | (with_reducible refine below_then ?_ (by assumption)) | (with_reducible refine Below.trans ?_ (by assumption)) | (with_reducible refine below_drewN ?_ _) | (with_reducible apply Below.drew) | (with_reducible refine below_alloc ?_ _) | refine Below.setCell ?_ (by first | (simp; done) | (simp; omega)) _)), nilRd_rx _ _ _⟩
  rw [f1] at HV
  rcases f2 : Q.ok
  · rw [f2] at HV2
    have HO : Hid (joinOk P Q = false) := by show _ = _; simp [joinOk, f2]
    have HJ : Hid (J = nilRd) := by show _ = _; rw [hJ, HO.out]; rfl
    clear hs ht hJ f1
    go_enter Try.func19, Try.ntmps19
    go_wp2_with (first | (with_reducible refine at_list ?_; refine wpList_fop rfl rfl rfl rfl rfl ?_; intro r n hr0; have hr := hr0 _ _ (by first | with_reducible assumption | exact rfl) (by first | with_reducible assumption | exact rfl); clear hr0) | (with_reducible refine at_list ?_; refine wpList_neg rfl rfl rfl ?_; intro r hr0; have hr := hr0 _ (by first | with_reducible assumption | exact rfl); clear hr0) | (with_reducible refine at_list ?_; refine wpList_fop_g rfl rfl rfl rfl rfl ?_; intro r n hr0; have hr := hr0 _ _ (by first | with_reducible assumption | exact rfl) (by first | with_reducible assumption | exact rfl); clear hr0) | (with_reducible refine at_list ?_; refine wpList_wide_g rfl rfl Try.underlying25 Try.underlying32 rfl ?_; intro r n hr0; have hr := hr0 _ (by first | with_reducible assumption | exact rfl); clear hr0) | (with_reducible refine at_list ?_; refine wpList_wide rfl rfl rfl Try.underlying25 Try.underlying32 ?_; intro r n hr0; have hr := hr0 _ (by first | with_reducible assumption | exact rfl); clear hr0) | (go_at_call_of 48 (Value.pointer (some (Addr.mk w.heap.size 0 none))); refine ((HV.out _ _ _ (by unfold RdAt; refine ⟨?_, ?_, ?_, ?_⟩ <;> go_simp) (HS.out.later (by (repeat (first | (with_reducible exact Below.refl _ _) | (with_reducible assumption) | (with_reducible refine below_then ?_ (by assumption)) | (with_reducible refine Below.trans ?_ (by assumption)) | (with_reducible refine below_drewN ?_ _) | (with_reducible apply Below.drew) | (with_reducible refine below_alloc ?_ _) | refine Below.setCell ?_ (by first | (simp; done) | (simp; omega)) _))))) ).mono ?_; rintro e w' ⟨rfl, n, rfl⟩) | (go_at_call 48; refine ((HV2.out _ _ _ (by unfold RdAt; refine ⟨?_, ?_, ?_, ?_⟩ <;> go_simp) (HT.out.later (by (repeat (first | (with_reducible exact Below.refl _ _) | (with_reducible assumption) | (with_reducible refine below_then ?_ (by assumption)) | (with_reducible refine Below.trans ?_ (by assumption)) | (with_reducible refine below_drewN ?_ _) | (with_reducible apply Below.drew) | (with_reducible refine below_alloc ?_ _) | refine Below.setCell ?_ (by first | (simp; done) | (simp; omega)) _))))) ).mono ?_; rintro e w' ⟨rfl, n, rfl⟩))
    all_goals
      refine bodyPost_ret (v := .tuple #[.agg #[.slice none 0 0, .slice none 0 0, .slice none 0 0, .slice none 0 0], .bool false]) (by simp [results, Try.results19, go_sem, *]) rfl ?_
      rw [HJ.out, HO.out]
      exact ⟨nilRL, rfl, by (repeat (first | (with_reducible exact Below.refl _ _) | (with_reducible assumption) | (with_reducible refine below_then ?_ (by assumption)) | (with_reducible refine Below.trans ?_ (by assumption)) | (with_reducible refine below_drewN ?_ _) | (with_reducible apply Below.drew) | (with_reducible refine below_alloc ?_ _) | refine Below.setCell ?_ (by first | (simp; done) | (simp; omega)) _)), nilRd_rx _ _ _⟩
  rw [f2] at HV2
  have HN := Lib.hid (ok_lens f1)
  have HK := Lib.hid (ok_lens f2)
  have H48 : Hid (P.a.length ≤ 48 ∧ P.b.length ≤ 48 ∧ P.c.length ≤ 48 ∧ P.d.length ≤ 48 ∧ Q.a.length ≤ 48 ∧ Q.b.length ≤ 48 ∧ Q.c.length ≤ 48 ∧ Q.d.length ≤ 48) := by
    have h1 := Rd.ok_len f1
    have h2 := Rd.ok_len f2
    exact ⟨by omega, by omega, by omega, by omega, by omega, by omega, by omega, by omega⟩
  have HJO : Hid (joinOk P Q = (joinR P Q).ok) := by show _ = _; simp [joinOk, f1, f2]
  obtain ⟨e1, o1, c1, e2, o2, c2, e3, o3, c3, e4, o4, c4, rfl, HA, HB, HCC, HD⟩ := Rd.open ht f2
  have HQL := Lib.hid (Rd.ok_len f2).2
  have HJ0 := Lib.hid hJ
  clear hs ht f1 f2 hJ
  go_enter Try.func19, Try.ntmps19
  go_wp2_with (first | (with_reducible refine at_list ?_; refine wpList_fop rfl rfl rfl rfl rfl ?_; intro r n hr0; have hr := hr0 _ _ (by first | with_reducible assumption | exact rfl) (by first | with_reducible assumption | exact rfl); clear hr0) | (with_reducible refine at_list ?_; refine wpList_neg rfl rfl rfl ?_; intro r hr0; have hr := hr0 _ (by first | with_reducible assumption | exact rfl); clear hr0) | (with_reducible refine at_list ?_; refine wpList_fop_g rfl rfl rfl rfl rfl ?_; intro r n hr0; have hr := hr0 _ _ (by first | with_reducible assumption | exact rfl) (by first | with_reducible assumption | exact rfl); clear hr0) | (with_reducible refine at_list ?_; refine wpList_wide_g rfl rfl Try.underlying25 Try.underlying32 rfl ?_; intro r n hr0; have hr := hr0 _ (by first | with_reducible assumption | exact rfl); clear hr0) | (with_reducible refine at_list ?_; refine wpList_wide rfl rfl rfl Try.underlying25 Try.underlying32 ?_; intro r n hr0; have hr := hr0 _ (by first | with_reducible assumption | exact rfl); clear hr0) | (go_at_call 59; refine stop_here ?_) | (go_at_call_of 48 (Value.pointer (some (Addr.mk w.heap.size 0 none))); refine ((HV.out _ _ _ (by unfold RdAt; refine ⟨?_, ?_, ?_, ?_⟩ <;> go_simp) (HS.out.later (by (repeat (first | (with_reducible exact Below.refl _ _) | (with_reducible assumption) | (with_reducible refine below_then ?_ (by assumption)) | (with_reducible refine Below.trans ?_ (by assumption)) | (with_reducible refine below_drewN ?_ _) | (with_reducible apply Below.drew) | (with_reducible refine below_alloc ?_ _) | refine Below.setCell ?_ (by first | (simp; done) | (simp; omega)) _))))) ).mono ?_; rintro e w' ⟨rfl, n, rfl⟩) | (go_at_call 48; refine ((HV2.out _ _ _ (by unfold RdAt; refine ⟨?_, ?_, ?_, ?_⟩ <;> go_simp) (HT.out.later (by (repeat (first | (with_reducible exact Below.refl _ _) | (with_reducible assumption) | (with_reducible refine below_then ?_ (by assumption)) | (with_reducible refine Below.trans ?_ (by assumption)) | (with_reducible refine below_drewN ?_ _) | (with_reducible apply Below.drew) | (with_reducible refine below_alloc ?_ _) | refine Below.setCell ?_ (by first | (simp; done) | (simp; omega)) _))))) ).mono ?_; rintro e w' ⟨rfl, n, rfl⟩))
  unfold Stop
  refine (l02Own_any P l _ _ _ (by unfold RdAt; refine ⟨?_, ?_, ?_, ?_⟩ <;> go_simp) (HS.out.later (by (repeat (first | (with_reducible exact Below.refl _ _) | (with_reducible assumption) | (with_reducible refine below_then ?_ (by assumption)) | (with_reducible refine Below.trans ?_ (by assumption)) | (with_reducible refine below_drewN ?_ _) | (with_reducible apply Below.drew) | (with_reducible refine below_alloc ?_ _) | refine Below.setCell ?_ (by first | (simp; done) | (simp; omega)) _)))) HN.out).mono ?_
  rintro e w' ⟨n, rfl, hb, hX⟩
  rename World => w1
  obtain ⟨hT, hk⟩ := bv_next hb (by (repeat (with_reducible first | assumption | apply Trk.alloc | apply Trk.setCell | apply Trk.drewN | apply Trk.drew | exact Trk.nil _))); simp only [SameOn, World.size_alloc, World.size_setCell, World.size_drew, size_drewN', and_true] at hk; have hsz := Below.size hb; (try simp only [World.size_alloc, World.size_setCell, World.size_drew, size_drewN'] at hsz)
  have HX1 : Hid (RdX (w.heap.size + 3) w1.heap.size w1 P n) := by
    have h := hX
    simp only [World.size_alloc, World.size_drew, World.size_setCell, size_drewN'] at h
    exact RdX.base h (by omega) (Nat.le_refl _)
  have HB1 : Hid (Below w.heap.size w w1) := by show Below _ _ _; (repeat (first | (with_reducible exact Below.refl _ _) | (with_reducible assumption) | (with_reducible refine below_then ?_ (by assumption)) | (with_reducible refine Below.trans ?_ (by assumption)) | (with_reducible refine below_drewN ?_ _) | (with_reducible apply Below.drew) | (with_reducible refine below_alloc ?_ _) | refine Below.setCell ?_ (by first | (simp; done) | (simp; omega)) _))
  have hz1 : w.heap.size + 3 ≤ w1.heap.size := by first | omega | (simp at hsz; omega)
  have HQ1 : Hid (RdAt Q ⟨some ⟨e1, o1, none⟩, c1, some ⟨e2, o2, none⟩, c2, some ⟨e3, o3, none⟩, c3, some ⟨e4, o4, none⟩, c4⟩ w1 (w.heap.size + 1) 0) := (by unfold RdAt; refine ⟨?_, ?_, ?_, ?_⟩ <;> go_simp)
  have HR1 : Hid (ZAt w1 (w.heap.size + 2)) := ⟨by go_simp, by go_simp, by go_simp, by go_simp, fun o => by go_simp⟩
  obtain ⟨n1, d1, n2, d2, n3, d3, n4, d4⟩ := n
  clear hX
  go_wp2_with (first | (with_reducible refine at_list ?_; refine wpList_fop rfl rfl rfl rfl rfl ?_; intro r n hr0; have hr := hr0 _ _ (by first | with_reducible assumption | exact rfl) (by first | with_reducible assumption | exact rfl); clear hr0) | (with_reducible refine at_list ?_; refine wpList_neg rfl rfl rfl ?_; intro r hr0; have hr := hr0 _ (by first | with_reducible assumption | exact rfl); clear hr0) | (with_reducible refine at_list ?_; refine wpList_fop_g rfl rfl rfl rfl rfl ?_; intro r n hr0; have hr := hr0 _ _ (by first | with_reducible assumption | exact rfl) (by first | with_reducible assumption | exact rfl); clear hr0) | (with_reducible refine at_list ?_; refine wpList_wide_g rfl rfl Try.underlying25 Try.underlying32 rfl ?_; intro r n hr0; have hr := hr0 _ (by first | with_reducible assumption | exact rfl); clear hr0) | (with_reducible refine at_list ?_; refine wpList_wide rfl rfl rfl Try.underlying25 Try.underlying32 ?_; intro r n hr0; have hr := hr0 _ (by first | with_reducible assumption | exact rfl); clear hr0) | (at_builtin; refine stop_here ?_) | (go_at_call 48; refine (l02Is_any _ _ _ _ _ (by assumption) (by assumption)).mono ?_; rintro e w' ⟨rfl, n, rfl⟩))
  unfold Stop
  refine wpList_named fun ws hws => ?_
  have HX2 : Hid (RdX (w.heap.size + 3) w1.heap.size ws P ⟨n1, d1, n2, d2, n3, d3, n4, d4⟩) := by
    have hX := HX1.out
    show RdX _ _ _ _ _
    rw [hws]
    exact (by (repeat' (first | (with_reducible assumption) | (with_reducible apply RdX.setCell) | (with_reducible apply RdX.alloc) | (with_reducible apply RdX.later; rotate_left; with_reducible assumption) | (with_reducible apply RdX.turn; rotate_left; with_reducible assumption) | (with_reducible apply RdX.drewN))) <;> (first | omega | (simp; done) | (simp; omega)))
  have HJ2 : Hid (RdAt P ⟨n1, d1, n2, d2, n3, d3, n4, d4⟩ ws w1.heap.size 0 ∧ (∀ o, ws.frozen? ⟨w1.heap.size, o, none⟩ = false)) := by
    show _ ∧ _
    rw [hws]
    exact ⟨(by unfold RdAt; refine ⟨?_, ?_, ?_, ?_⟩ <;> go_simp), fun o => by go_simp⟩
  have hwz : w1.heap.size < ws.heap.size := by rw [hws]; first | omega | (simp; done) | (simp; omega)
  have J0 : Hid (JS (w.heap.size + 3) w1.heap.size ws P ⟨n1, d1, n2, d2, n3, d3, n4, d4⟩) := by
    have h := HX2.out
    exact ⟨⟨h.ra (Nat.le_refl _), HJ2.out.1, HJ2.out.2, hwz⟩, fun e => absurd (h.1.2.1 _ e) (Nat.lt_irrefl _), fun e => absurd (h.1.2.2.1 _ e) (Nat.lt_irrefl _), fun e => absurd (h.1.2.2.2.1 _ e) (Nat.lt_irrefl _), fun e => absurd (h.1.2.2.2.2 _ e) (Nat.lt_irrefl _)⟩
  have BX : Hid (Below (w.heap.size + 3) w1 ws) := by
    show Below _ _ _
    rw [hws]
    exact (Below.refl _ w1).alloc hz1 _
  have BB0 : Hid (Below w.heap.size w ws) := HB1.out.trans (BX.out.mono (by omega))
  have HQ0 := Lib.hid (rd_later HQ1.out BX.out (by omega))
  have Z0 := Lib.hid (HR1.out.later BX.out (by omega))
  have hne1 : w1.heap.size ≠ w.heap.size + 1 := by omega
  have hne2 : w.heap.size + 1 ≠ w1.heap.size := by omega
  have hne3 : w1.heap.size ≠ w.heap.size + 2 := by omega
  have hne4 : w.heap.size + 2 ≠ w1.heap.size := by omega
  clear hws HX2 HJ2 BX HQ1 HR1 HX1 hb hk hT hsz
  clear hwz
  have hgz0 := J0.out.1.2.2.2
  rename World => ws0
  apply wpList_appX (B := w.heap.size + 3) (xs := P.a) (zs := Q.a) (v := .slice n1 P.a.length d1)
  case hg => rfl
  case ho => rfl
  case hs => rfl
  case hx => rfl
  case hO => exact J0.out.1.1.1.1
  case hc => exact fun i hi => cell_later BB0.out (HA.out i (by have := HQL.out; omega))
  case hn => have := H48.out; omega
  case hB => omega
  intro q1 k1 wn0 hO hb hgr hq
  have JN := JS.step1 J0.out hO hgr hq
  have hC := cells4 J0.out hgr J0.out.2.1
  obtain ⟨L1, hL⟩ : ∃ L, L = P.a ++ Q.a := ⟨_, rfl⟩
  rw [← hL] at JN ⊢
  have HL1 := Lib.hid hL
  have HJJ := Lib.hid JN
  have hzn : ws0.heap.size ≤ wn0.heap.size := hb.size
  have HQN := Lib.hid (rd_later HQ0.out hb (by omega))
  have HZN := Lib.hid (Z0.out.later hb (by omega))
  have HBN : Hid (Below w.heap.size w wn0) := BB0.out.trans (hb.mono (by omega))
  obtain ⟨⟨c0, c1', c2', c3'⟩, cf⟩ := hC
  obtain ⟨x0, x1, x2, x3⟩ := HQN.out
  obtain ⟨y0, y1, y2, y3, yf⟩ := HZN.out
  simp only [Nat.zero_add] at c1' c2' c3' x1 x2 x3
  clear hO hb hgr hq hL JN BB0 HQ0 Z0 hgz0 J0
  go_wp2_with (first | (with_reducible refine at_list ?_; refine wpList_fop rfl rfl rfl rfl rfl ?_; intro r n hr0; have hr := hr0 _ _ (by first | with_reducible assumption | exact rfl) (by first | with_reducible assumption | exact rfl); clear hr0) | (with_reducible refine at_list ?_; refine wpList_neg rfl rfl rfl ?_; intro r hr0; have hr := hr0 _ (by first | with_reducible assumption | exact rfl); clear hr0) | (with_reducible refine at_list ?_; refine wpList_fop_g rfl rfl rfl rfl rfl ?_; intro r n hr0; have hr := hr0 _ _ (by first | with_reducible assumption | exact rfl) (by first | with_reducible assumption | exact rfl); clear hr0) | (with_reducible refine at_list ?_; refine wpList_wide_g rfl rfl Try.underlying25 Try.underlying32 rfl ?_; intro r n hr0; have hr := hr0 _ (by first | with_reducible assumption | exact rfl); clear hr0) | (with_reducible refine at_list ?_; refine wpList_wide rfl rfl rfl Try.underlying25 Try.underlying32 ?_; intro r n hr0; have hr := hr0 _ (by first | with_reducible assumption | exact rfl); clear hr0) | (at_builtin; refine stop_here ?_) | (go_at_call 48; refine (l02Is_any _ _ _ _ _ (by assumption) (by assumption)).mono ?_; rintro e w' ⟨rfl, n, rfl⟩))
  unfold Stop
  refine wpList_named fun ws hws => ?_
  have J1 : Hid (JS (w.heap.size + 3) w1.heap.size ws (Rd.mk L1 P.b P.c P.d) (RL.mk q1 k1 n2 d2 n3 d3 n4 d4)) := by show JS _ _ _ _ _; rw [hws]; exact HJJ.out
  have BB1 : Hid (Below w.heap.size w ws) := by show Below _ _ _; rw [hws]; exact HBN.out.setCell (by show _ ≤ w1.heap.size; omega) _
  have HQ1 : Hid (RdAt Q (RL.mk (some ⟨e1, o1, none⟩) c1 (some ⟨e2, o2, none⟩) c2 (some ⟨e3, o3, none⟩) c3 (some ⟨e4, o4, none⟩) c4) ws (w.heap.size + 1) 0) := by show RdAt _ _ _ _ _; rw [hws]; exact (by unfold RdAt; refine ⟨?_, ?_, ?_, ?_⟩ <;> go_simp)
  have Z1 : Hid (ZAt ws (w.heap.size + 2)) := by show ZAt _ _; rw [hws]; exact ⟨by go_simp, by go_simp, by go_simp, by go_simp, fun o => by go_simp⟩
  clear hws HJJ HBN HQN HZN c0 c1' c2' c3' cf x0 x1 x2 x3 y0 y1 y2 y3 yf hzn
  have hgz1 := J1.out.1.2.2.2
  rename World => ws1
  apply wpList_appX (B := w.heap.size + 3) (xs := P.b) (zs := Q.b) (v := .slice n2 P.b.length d2)
  case hg => rfl
  case ho => rfl
  case hs => rfl
  case hx => rfl
  case hO => exact J1.out.1.1.1.2.1
  case hc => exact fun i hi => cell_later BB1.out (HB.out i (by have := HQL.out; omega))
  case hn => have := H48.out; omega
  case hB => omega
  intro q2 k2 wn1 hO hb hgr hq
  have JN := JS.step2 J1.out hO hgr hq
  have hC := cells4 J1.out hgr J1.out.2.2.1
  obtain ⟨L2, hL⟩ : ∃ L, L = P.b ++ Q.b := ⟨_, rfl⟩
  rw [← hL] at JN ⊢
  have HL2 := Lib.hid hL
  have HJJ := Lib.hid JN
  have hzn : ws1.heap.size ≤ wn1.heap.size := hb.size
  have HQN := Lib.hid (rd_later HQ1.out hb (by omega))
  have HZN := Lib.hid (Z1.out.later hb (by omega))
  have HBN : Hid (Below w.heap.size w wn1) := BB1.out.trans (hb.mono (by omega))
  obtain ⟨⟨c0, c1', c2', c3'⟩, cf⟩ := hC
  obtain ⟨x0, x1, x2, x3⟩ := HQN.out
  obtain ⟨y0, y1, y2, y3, yf⟩ := HZN.out
  simp only [Nat.zero_add] at c1' c2' c3' x1 x2 x3
  clear hO hb hgr hq hL JN BB1 HQ1 Z1 hgz1 J1
  go_wp2_with (first | (with_reducible refine at_list ?_; refine wpList_fop rfl rfl rfl rfl rfl ?_; intro r n hr0; have hr := hr0 _ _ (by first | with_reducible assumption | exact rfl) (by first | with_reducible assumption | exact rfl); clear hr0) | (with_reducible refine at_list ?_; refine wpList_neg rfl rfl rfl ?_; intro r hr0; have hr := hr0 _ (by first | with_reducible assumption | exact rfl); clear hr0) | (with_reducible refine at_list ?_; refine wpList_fop_g rfl rfl rfl rfl rfl ?_; intro r n hr0; have hr := hr0 _ _ (by first | with_reducible assumption | exact rfl) (by first | with_reducible assumption | exact rfl); clear hr0) | (with_reducible refine at_list ?_; refine wpList_wide_g rfl rfl Try.underlying25 Try.underlying32 rfl ?_; intro r n hr0; have hr := hr0 _ (by first | with_reducible assumption | exact rfl); clear hr0) | (with_reducible refine at_list ?_; refine wpList_wide rfl rfl rfl Try.underlying25 Try.underlying32 ?_; intro r n hr0; have hr := hr0 _ (by first | with_reducible assumption | exact rfl); clear hr0) | (at_builtin; refine stop_here ?_) | (go_at_call 48; refine (l02Is_any _ _ _ _ _ (by assumption) (by assumption)).mono ?_; rintro e w' ⟨rfl, n, rfl⟩))
  unfold Stop
  refine wpList_named fun ws hws => ?_
  have J2 : Hid (JS (w.heap.size + 3) w1.heap.size ws (Rd.mk L1 L2 P.c P.d) (RL.mk q1 k1 q2 k2 n3 d3 n4 d4)) := by show JS _ _ _ _ _; rw [hws]; exact HJJ.out
  have BB2 : Hid (Below w.heap.size w ws) := by show Below _ _ _; rw [hws]; exact HBN.out.setCell (by show _ ≤ w1.heap.size; omega) _
  have HQ2 : Hid (RdAt Q (RL.mk (some ⟨e1, o1, none⟩) c1 (some ⟨e2, o2, none⟩) c2 (some ⟨e3, o3, none⟩) c3 (some ⟨e4, o4, none⟩) c4) ws (w.heap.size + 1) 0) := by show RdAt _ _ _ _ _; rw [hws]; exact (by unfold RdAt; refine ⟨?_, ?_, ?_, ?_⟩ <;> go_simp)
  have Z2 : Hid (ZAt ws (w.heap.size + 2)) := by show ZAt _ _; rw [hws]; exact ⟨by go_simp, by go_simp, by go_simp, by go_simp, fun o => by go_simp⟩
  clear hws HJJ HBN HQN HZN c0 c1' c2' c3' cf x0 x1 x2 x3 y0 y1 y2 y3 yf hzn
  have hgz2 := J2.out.1.2.2.2
  rename World => ws2
  apply wpList_appX (B := w.heap.size + 3) (xs := P.c) (zs := Q.c) (v := .slice n3 P.c.length d3)
  case hg => rfl
  case ho => rfl
  case hs => rfl
  case hx => rfl
  case hO => exact J2.out.1.1.1.2.2.1
  case hc => exact fun i hi => cell_later BB2.out (HCC.out i (by have := HQL.out; omega))
  case hn => have := H48.out; omega
  case hB => omega
  intro q3 k3 wn2 hO hb hgr hq
  have JN := JS.step3 J2.out hO hgr hq
  have hC := cells4 J2.out hgr J2.out.2.2.2.1
  obtain ⟨L3, hL⟩ : ∃ L, L = P.c ++ Q.c := ⟨_, rfl⟩
  rw [← hL] at JN ⊢
  have HL3 := Lib.hid hL
  have HJJ := Lib.hid JN
  have hzn : ws2.heap.size ≤ wn2.heap.size := hb.size
  have HQN := Lib.hid (rd_later HQ2.out hb (by omega))
  have HZN := Lib.hid (Z2.out.later hb (by omega))
  have HBN : Hid (Below w.heap.size w wn2) := BB2.out.trans (hb.mono (by omega))
  obtain ⟨⟨c0, c1', c2', c3'⟩, cf⟩ := hC
  obtain ⟨x0, x1, x2, x3⟩ := HQN.out
  obtain ⟨y0, y1, y2, y3, yf⟩ := HZN.out
  simp only [Nat.zero_add] at c1' c2' c3' x1 x2 x3
  clear hO hb hgr hq hL JN BB2 HQ2 Z2 hgz2 J2
  go_wp2_with (first | (with_reducible refine at_list ?_; refine wpList_fop rfl rfl rfl rfl rfl ?_; intro r n hr0; have hr := hr0 _ _ (by first | with_reducible assumption | exact rfl) (by first | with_reducible assumption | exact rfl); clear hr0) | (with_reducible refine at_list ?_; refine wpList_neg rfl rfl rfl ?_; intro r hr0; have hr := hr0 _ (by first | with_reducible assumption | exact rfl); clear hr0) | (with_reducible refine at_list ?_; refine wpList_fop_g rfl rfl rfl rfl rfl ?_; intro r n hr0; have hr := hr0 _ _ (by first | with_reducible assumption | exact rfl) (by first | with_reducible assumption | exact rfl); clear hr0) | (with_reducible refine at_list ?_; refine wpList_wide_g rfl rfl Try.underlying25 Try.underlying32 rfl ?_; intro r n hr0; have hr := hr0 _ (by first | with_reducible assumption | exact rfl); clear hr0) | (with_reducible refine at_list ?_; refine wpList_wide rfl rfl rfl Try.underlying25 Try.underlying32 ?_; intro r n hr0; have hr := hr0 _ (by first | with_reducible assumption | exact rfl); clear hr0) | (at_builtin; refine stop_here ?_) | (go_at_call 48; refine (l02Is_any _ _ _ _ _ (by assumption) (by assumption)).mono ?_; rintro e w' ⟨rfl, n, rfl⟩))
  unfold Stop
  refine wpList_named fun ws hws => ?_
  have J3 : Hid (JS (w.heap.size + 3) w1.heap.size ws (Rd.mk L1 L2 L3 P.d) (RL.mk q1 k1 q2 k2 q3 k3 n4 d4)) := by show JS _ _ _ _ _; rw [hws]; exact HJJ.out
  have BB3 : Hid (Below w.heap.size w ws) := by show Below _ _ _; rw [hws]; exact HBN.out.setCell (by show _ ≤ w1.heap.size; omega) _
  have HQ3 : Hid (RdAt Q (RL.mk (some ⟨e1, o1, none⟩) c1 (some ⟨e2, o2, none⟩) c2 (some ⟨e3, o3, none⟩) c3 (some ⟨e4, o4, none⟩) c4) ws (w.heap.size + 1) 0) := by show RdAt _ _ _ _ _; rw [hws]; exact (by unfold RdAt; refine ⟨?_, ?_, ?_, ?_⟩ <;> go_simp)
  have Z3 : Hid (ZAt ws (w.heap.size + 2)) := by show ZAt _ _; rw [hws]; exact ⟨by go_simp, by go_simp, by go_simp, by go_simp, fun o => by go_simp⟩
  clear hws HJJ HBN HQN HZN c0 c1' c2' c3' cf x0 x1 x2 x3 y0 y1 y2 y3 yf hzn
  have hgz3 := J3.out.1.2.2.2
  rename World => ws3
  apply wpList_appX (B := w.heap.size + 3) (xs := P.d) (zs := Q.d) (v := .slice n4 P.d.length d4)
  case hg => rfl
  case ho => rfl
  case hs => rfl
  case hx => rfl
  case hO => exact J3.out.1.1.1.2.2.2
  case hc => exact fun i hi => cell_later BB3.out (HD.out i (by have := HQL.out; omega))
  case hn => have := H48.out; omega
  case hB => omega
  intro q4 k4 wn3 hO hb hgr hq
  have JN := JS.step4 J3.out hO hgr hq
  have hC := cells4 J3.out hgr J3.out.2.2.2.2
  obtain ⟨L4, hL⟩ : ∃ L, L = P.d ++ Q.d := ⟨_, rfl⟩
  rw [← hL] at JN ⊢
  have HL4 := Lib.hid hL
  have HJJ := Lib.hid JN
  have hzn : ws3.heap.size ≤ wn3.heap.size := hb.size
  have HQN := Lib.hid (rd_later HQ3.out hb (by omega))
  have HZN := Lib.hid (Z3.out.later hb (by omega))
  have HBN : Hid (Below w.heap.size w wn3) := BB3.out.trans (hb.mono (by omega))
  obtain ⟨⟨c0, c1', c2', c3'⟩, cf⟩ := hC
  obtain ⟨x0, x1, x2, x3⟩ := HQN.out
  obtain ⟨y0, y1, y2, y3, yf⟩ := HZN.out
  simp only [Nat.zero_add] at c1' c2' c3' x1 x2 x3
  clear hO hb hgr hq hL JN BB3 HQ3 Z3 hgz3 J3
  go_wp2_with (first | (with_reducible refine at_list ?_; refine wpList_fop rfl rfl rfl rfl rfl ?_; intro r n hr0; have hr := hr0 _ _ (by first | with_reducible assumption | exact rfl) (by first | with_reducible assumption | exact rfl); clear hr0) | (with_reducible refine at_list ?_; refine wpList_neg rfl rfl rfl ?_; intro r hr0; have hr := hr0 _ (by first | with_reducible assumption | exact rfl); clear hr0) | (with_reducible refine at_list ?_; refine wpList_fop_g rfl rfl rfl rfl rfl ?_; intro r n hr0; have hr := hr0 _ _ (by first | with_reducible assumption | exact rfl) (by first | with_reducible assumption | exact rfl); clear hr0) | (with_reducible refine at_list ?_; refine wpList_wide_g rfl rfl Try.underlying25 Try.underlying32 rfl ?_; intro r n hr0; have hr := hr0 _ (by first | with_reducible assumption | exact rfl); clear hr0) | (with_reducible refine at_list ?_; refine wpList_wide rfl rfl rfl Try.underlying25 Try.underlying32 ?_; intro r n hr0; have hr := hr0 _ (by first | with_reducible assumption | exact rfl); clear hr0) | (go_at_call 60; refine stop_here ?_) | (go_at_call 48; refine (l02Is_any _ _ _ _ _ (by assumption) (by assumption)).mono ?_; rintro e w' ⟨rfl, n, rfl⟩))
  unfold Stop
  refine Calls_named fun ws hws => ?_
  have J4 : Hid (JS (w.heap.size + 3) w1.heap.size ws (Rd.mk L1 L2 L3 L4) (RL.mk q1 k1 q2 k2 q3 k3 q4 k4)) := by show JS _ _ _ _ _; rw [hws]; exact HJJ.out
  have BB4 : Hid (Below w.heap.size w ws) := by show Below _ _ _; rw [hws]; exact HBN.out.setCell (by show _ ≤ w1.heap.size; omega) _
  have Z4 : Hid (ZAt ws (w.heap.size + 2)) := by show ZAt _ _; rw [hws]; exact ⟨by go_simp, by go_simp, by go_simp, by go_simp, fun o => by go_simp⟩
  clear hws HJJ HBN HQN HZN c0 c1' c2' c3' cf x0 x1 x2 x3 y0 y1 y2 y3 yf hzn
  have hgz4 := J4.out.1.2.2.2
  have HR : Hid ((Rd.mk L1 L2 L3 L4) = joinR P Q) := by show _ = _; rw [HL1.out, HL2.out, HL3.out, HL4.out]; rfl
  have hfs := J4.out.1.1.1.fs
  rcases f3 : (joinR P Q).ok
  · have HO := Lib.hid (HJO.out.trans f3)
    have HJ : Hid (J = nilRd) := by show _ = _; rw [HJ0.out, HO.out]; rfl
    have hrk : (Rd.mk L1 L2 L3 L4).ok = false := by rw [HR.out]; exact f3
    clear HJ0 HJO
    refine (l02Give_no _ _ _ hfs hrk).mono ?_
    rintro e w' ⟨rfl, hb⟩
    rename World => w5
    have hB5 : Below w.heap.size w w5 := BB4.out.trans (hb.mono BB4.out.size)
    obtain ⟨y0, y1, y2, y3, yf⟩ := Z4.out.later hb (by omega)
    go_wp2_with (first | (with_reducible refine at_list ?_; refine wpList_fop rfl rfl rfl rfl rfl ?_; intro r n hr0; have hr := hr0 _ _ (by first | with_reducible assumption | exact rfl) (by first | with_reducible assumption | exact rfl); clear hr0) | (with_reducible refine at_list ?_; refine wpList_neg rfl rfl rfl ?_; intro r hr0; have hr := hr0 _ (by first | with_reducible assumption | exact rfl); clear hr0) | (with_reducible refine at_list ?_; refine wpList_fop_g rfl rfl rfl rfl rfl ?_; intro r n hr0; have hr := hr0 _ _ (by first | with_reducible assumption | exact rfl) (by first | with_reducible assumption | exact rfl); clear hr0) | (with_reducible refine at_list ?_; refine wpList_wide_g rfl rfl Try.underlying25 Try.underlying32 rfl ?_; intro r n hr0; have hr := hr0 _ (by first | with_reducible assumption | exact rfl); clear hr0) | (with_reducible refine at_list ?_; refine wpList_wide rfl rfl rfl Try.underlying25 Try.underlying32 ?_; intro r n hr0; have hr := hr0 _ (by first | with_reducible assumption | exact rfl); clear hr0) | (go_at_call 48; refine (l02Is_any _ _ _ _ _ (by assumption) (by assumption)).mono ?_; rintro e w' ⟨rfl, n, rfl⟩))
    refine bodyPost_ret (v := .tuple #[.agg #[.slice none 0 0, .slice none 0 0, .slice none 0 0, .slice none 0 0], .bool false]) (by simp [results, Try.results19, go_sem, *]) rfl ?_
    rw [HJ.out, HO.out]
    exact ⟨nilRL, rfl, by (repeat (first | (with_reducible exact Below.refl _ _) | (with_reducible assumption) | (with_reducible refine below_then ?_ (by assumption)) | (with_reducible refine Below.trans ?_ (by assumption)) | (with_reducible refine below_drewN ?_ _) | (with_reducible apply Below.drew) | (with_reducible refine below_alloc ?_ _) | refine Below.setCell ?_ (by first | (simp; done) | (simp; omega)) _)), nilRd_rx _ _ _⟩
  · have HO := Lib.hid (HJO.out.trans f3)
    have HJ : Hid (J = (Rd.mk L1 L2 L3 L4)) := by show _ = _; rw [HJ0.out, HO.out, HR.out]; rfl
    have hrk : (Rd.mk L1 L2 L3 L4).ok = true := by rw [HR.out]; exact f3
    clear HJ0 HJO
    refine (l02Give_yes _ _ _ hfs hrk).mono ?_
    rintro e w' ⟨rfl, hb⟩
    rename World => w5
    have hB5 : Below w.heap.size w w5 := BB4.out.trans (hb.mono BB4.out.size)
    obtain ⟨y0, y1, y2, y3, yf⟩ := Z4.out.later hb (by omega)
    have hX : RdX (w.heap.size + 3) w5.heap.size w5 (Rd.mk L1 L2 L3 L4) (RL.mk q1 k1 q2 k2 q3 k3 q4 k4) := (J4.out.1.1.later hb).rx (Nat.le_refl _)
    go_wp2_with (first | (with_reducible refine at_list ?_; refine wpList_fop rfl rfl rfl rfl rfl ?_; intro r n hr0; have hr := hr0 _ _ (by first | with_reducible assumption | exact rfl) (by first | with_reducible assumption | exact rfl); clear hr0) | (with_reducible refine at_list ?_; refine wpList_neg rfl rfl rfl ?_; intro r hr0; have hr := hr0 _ (by first | with_reducible assumption | exact rfl); clear hr0) | (with_reducible refine at_list ?_; refine wpList_fop_g rfl rfl rfl rfl rfl ?_; intro r n hr0; have hr := hr0 _ _ (by first | with_reducible assumption | exact rfl) (by first | with_reducible assumption | exact rfl); clear hr0) | (with_reducible refine at_list ?_; refine wpList_wide_g rfl rfl Try.underlying25 Try.underlying32 rfl ?_; intro r n hr0; have hr := hr0 _ (by first | with_reducible assumption | exact rfl); clear hr0) | (with_reducible refine at_list ?_; refine wpList_wide rfl rfl rfl Try.underlying25 Try.underlying32 ?_; intro r n hr0; have hr := hr0 _ (by first | with_reducible assumption | exact rfl); clear hr0) | (go_at_call 48; refine (l02Is_any _ _ _ _ _ (by assumption) (by assumption)).mono ?_; rintro e w' ⟨rfl, n, rfl⟩))
    refine bodyPost_ret (v := .tuple #[.agg #[.slice q1 L1.length k1, .slice q2 L2.length k2, .slice q3 L3.length k3, .slice q4 L4.length k4], .bool true]) (by simp [results, Try.results19, go_sem, *]) rfl ?_
    rw [HJ.out, HO.out]
    exact ⟨(RL.mk q1 k1 q2 k2 q3 k3 q4 k4), rfl, by (repeat (first | (with_reducible exact Below.refl _ _) | (with_reducible assumption) | (with_reducible refine below_then ?_ (by assumption)) | (with_reducible refine Below.trans ?_ (by assumption)) | (with_reducible refine below_drewN ?_ _) | (with_reducible apply Below.drew) | (with_reducible refine below_alloc ?_ _) | refine Below.setCell ?_ (by first | (simp; done) | (simp; omega)) _)), RdX.base (by (repeat' (first | (with_reducible assumption) | (with_reducible apply RdX.setCell) | (with_reducible apply RdX.alloc) | (with_reducible apply RdX.later; rotate_left; with_reducible assumption) | (with_reducible apply RdX.turn; rotate_left; with_reducible assumption) | (with_reducible apply RdX.drewN))) <;> (first | omega | (simp; done) | (simp; omega))) (by first | omega | (simp; done) | (simp; omega)) (by first | omega | (simp; done) | (simp; omega))⟩
end Go.Proofs.Ytgkcfeaknehopaa
