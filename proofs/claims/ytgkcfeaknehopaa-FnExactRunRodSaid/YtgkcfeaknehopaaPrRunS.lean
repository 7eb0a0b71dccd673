/-
  A run of a rod: one tick of the reference. No condition but what each contract says.
-/
import Derived.Test.YtgkcfeaknehopaaPrRun
import Derived.Test.YtgkcfeaknehopaaPrStep2
set_option linter.unusedSimpArgs false
set_option linter.unusedVariables false
set_option linter.unusedSectionVars false
namespace Go.Proofs.Ytgkcfeaknehopaa
open Go Go.RowKit
open Go.ChangeShapes Go.WideShapes Go.ChangeAt Go.RowKit Go.Joins
theorem calls_named {P : Program} {f : FuncId} {args : Array Value} {w : World} {Q : Ending → World → Prop} (h : ∀ W, W = w → Calls P f args W Q) : Calls P f args w Q := h w rfl
theorem runAt_app {B W b : Nat} {wB u : World} {g0 : Option Nat} {R1 : Rd} {mq : RL} {q2 : Option Addr} {c2 : Nat} {ys2 : List Nat} (h1 : wB.grownBy u g0) (ho : owned wB b [.slice mq.p1 R1.a.length mq.c1, .slice mq.p2 R1.b.length mq.c2, .slice mq.p3 R1.c.length mq.c3, .slice mq.p4 R1.d.length mq.c4]) (hb : B ≤ b) (hgb : ∀ k, g0 = some k → k ≠ b) (hX : RdX W wB.heap.size wB R1 mq) (hBW : B ≤ W) (hg : ∀ k, g0 = some k → k < W) (hO : OF B u (.slice q2 ys2.length c2) ys2) (hn : (Value.slice q2 ys2.length c2).ownBlock = g0 ∨ (Value.slice q2 ys2.length c2).ownBlock = some wB.heap.size) : RunAt B u b R1 mq q2 c2 ys2 := by
  have hlt : b < wB.heap.size := World.block_lt_of_cell? _ _ (ho 0 _ rfl).1
  have k2 : RdA W u R1 mq := (hX.ra (Nat.le_refl _)).kept h1 hg
  have hne : ∀ k, (Value.slice q2 ys2.length c2).ownBlock = some k → k ≠ b := by
    intro k hk
    rcases hn with h | h
    · exact hgb k (h.symm.trans hk)
    · rw [h] at hk; cases hk; omega
  have hap : ∀ {v : Value} {xs : List Nat} {p : Option Addr} {nn cc : Nat}, v = .slice p nn cc → OF W wB v xs → (∀ k, v.ownBlock = some k → k < wB.heap.size) → Ap q2 p := by
    rintro v xs p nn cc rfl hO hS a a' rfl rfl e
    have e1 := (hO.block a'.block rfl).1
    have e2 := hS a'.block rfl
    rcases hn with h | h
    · have := hg a.block (h.symm.trans rfl); omega
    · have : a.block = wB.heap.size := by have h9 : some a.block = some wB.heap.size := h; simpa using h9
      omega
  exact ⟨⟨owned_kept ho h1 hlt hgb, hb⟩, ⟨k2.1.base hBW, k2.2⟩, hO, hne, hap rfl hX.1.1.1 hX.1.2.1, hap rfl hX.1.1.2.1 hX.1.2.2.1, hap rfl hX.1.1.2.2.1 hX.1.2.2.2.1, hap rfl hX.1.1.2.2.2 hX.1.2.2.2.2⟩
set_option maxHeartbeats 4000000 in
set_option maxRecDepth 100000 in
theorem l02Move_any (P : Rd) (l : RL) (E G : EndT) (t b o c p d q : Nat) (rows : Bool) (w : World) (ha : RdAt P l w b o) (hs : P.fs w l) (he1 : EnAt E w c p) (he2 : EnAt G w d q) (hok : endsOk P E G = true) (ht : lst (cn .f32 t) = true) (hr : rows = true → abv (cn .f32 t) = true) : Calls Try.prog 103 #[.pointer (some ⟨b, o, none⟩), .pointer (some ⟨c, p, none⟩), .pointer (some ⟨d, q, none⟩), .float .f32 t, .bool rows] w (BRB w (okR (mvOk rows E G t P) (mvR rows E G t P)) (mvOk rows E G t P)) := by
  have HA := Lib.hid (fun w' (h : Below w.heap.size w w') => (rd_later ha h (World.block_lt_of_cell? _ _ ha.1) : RdAt P l w' b o))
  have HS := Lib.hid hs
  have HE1 := Lib.hid (fun w' (h : Below w.heap.size w w') => (en_later he1 h (World.block_lt_of_cell? _ _ he1.1) : EnAt E w' c p))
  have HE2 := Lib.hid (fun w' (h : Below w.heap.size w w') => (en_later he2 h (World.block_lt_of_cell? _ _ he2.1) : EnAt G w' d q))
  cases rows
  · have HP : Hid (∀ w' (h : Below w.heap.size w w'), Calls Try.prog 80 #[.pointer (some ⟨b, o, none⟩), .pointer (some ⟨c, p, none⟩), .pointer (some ⟨d, q, none⟩), .float .f32 t] w' (BRB w' (okR (mvOk false E G t P) (mvR false E G t P)) (mvOk false E G t P))) := fun w' h => (l02Step_any P l E G t b o c p d q w' (HA.out w' h) (HS.out.later h) (HE1.out w' h) (HE2.out w' h) hok ht).mono fun e w' h => brb_of2 h
    generalize okR (mvOk false E G t P) (mvR false E G t P) = R at *
    generalize mvOk false E G t P = bb at *
    clear ha hs he1 he2 HA HS HE1 HE2 hok ht hr
    go_enter Try.func103, Try.ntmps103
    go_wp2_with (first | (with_reducible refine at_list ?_; refine wpList_wide_g rfl rfl Try.underlying25 Try.underlying32 rfl ?_; intro r n hr0; have hr := hr0 _ (by first | with_reducible assumption | exact rfl); clear hr0) | (with_reducible refine at_list ?_; refine wpList_wide rfl rfl rfl Try.underlying25 Try.underlying32 ?_; intro r n hr0; have hr := hr0 _ (by first | with_reducible assumption | exact rfl); clear hr0) | (go_at_call 80; refine (HP.out _ (by (repeat (first | (with_reducible exact Below.refl _ _) | (with_reducible assumption) | (with_reducible refine below_then ?_ (by assumption)) | (with_reducible refine Below.trans ?_ (by assumption)) | (with_reducible refine below_drewN ?_ _) | (with_reducible apply Below.drew) | (with_reducible refine below_alloc ?_ _) | refine Below.setCell ?_ (by first | (simp; done) | (simp; omega)) _)))).mono ?_; rintro e w' ⟨m, rfl, hb, hX⟩; (try simp only [World.size_alloc, World.size_setCell, World.size_drew, World.drewN] at hX); obtain ⟨hT, hk⟩ := bv_next hb (by (repeat (with_reducible first | assumption | apply Trk.alloc | apply Trk.setCell | apply Trk.drewN | apply Trk.drew | exact Trk.nil _))); simp only [SameOn, World.size_alloc, World.size_setCell, World.size_drew, size_drewN', and_true] at hk; have hsz := Below.size hb; (try simp only [World.size_alloc, World.size_setCell, World.size_drew, size_drewN'] at hsz)))
    refine bodyPost_ret (v := .tuple #[.agg #[.slice m.p1 R.a.length m.c1, .slice m.p2 R.b.length m.c2, .slice m.p3 R.c.length m.c3, .slice m.p4 R.d.length m.c4], .bool bb]) (by simp [results, Try.results103, go_sem, *]) rfl ?_
    exact ⟨m, rfl, by (repeat (first | (with_reducible exact Below.refl _ _) | (with_reducible assumption) | (with_reducible refine below_then ?_ (by assumption)) | (with_reducible refine Below.trans ?_ (by assumption)) | (with_reducible refine below_drewN ?_ _) | (with_reducible apply Below.drew) | (with_reducible refine below_alloc ?_ _) | refine Below.setCell ?_ (by first | (simp; done) | (simp; omega)) _)), RdX.base (by (repeat' (first | (with_reducible assumption) | (with_reducible apply RdX.setCell) | (with_reducible apply RdX.alloc) | (with_reducible apply RdX.later; rotate_left; with_reducible assumption) | (with_reducible apply RdX.turn; rotate_left; with_reducible assumption) | (with_reducible apply RdX.drewN))) <;> (first | omega | (simp; done) | (simp; omega))) (by first | omega | (simp; done) | (simp; omega)) (by first | omega | (simp; done) | (simp; omega))⟩
  · have HP : Hid (∀ w' (h : Below w.heap.size w w'), Calls Try.prog 82 #[.pointer (some ⟨b, o, none⟩), .pointer (some ⟨c, p, none⟩), .pointer (some ⟨d, q, none⟩), .float .f32 t] w' (BRB w' (okR (mvOk true E G t P) (mvR true E G t P)) (mvOk true E G t P))) := fun w' h => (l02Rows_any P l E G t b o c p d q w' (HA.out w' h) (HS.out.later h) (HE1.out w' h) (HE2.out w' h) hok (hr rfl)).mono fun e w' h => brb_of2 h
    generalize okR (mvOk true E G t P) (mvR true E G t P) = R at *
    generalize mvOk true E G t P = bb at *
    clear ha hs he1 he2 HA HS HE1 HE2 hok ht hr
    go_enter Try.func103, Try.ntmps103
    go_wp2_with (first | (with_reducible refine at_list ?_; refine wpList_wide_g rfl rfl Try.underlying25 Try.underlying32 rfl ?_; intro r n hr0; have hr := hr0 _ (by first | with_reducible assumption | exact rfl); clear hr0) | (with_reducible refine at_list ?_; refine wpList_wide rfl rfl rfl Try.underlying25 Try.underlying32 ?_; intro r n hr0; have hr := hr0 _ (by first | with_reducible assumption | exact rfl); clear hr0) | (go_at_call 82; refine (HP.out _ (by (repeat (first | (with_reducible exact Below.refl _ _) | (with_reducible assumption) | (with_reducible refine below_then ?_ (by assumption)) | (with_reducible refine Below.trans ?_ (by assumption)) | (with_reducible refine below_drewN ?_ _) | (with_reducible apply Below.drew) | (with_reducible refine below_alloc ?_ _) | refine Below.setCell ?_ (by first | (simp; done) | (simp; omega)) _)))).mono ?_; rintro e w' ⟨m, rfl, hb, hX⟩; (try simp only [World.size_alloc, World.size_setCell, World.size_drew, World.drewN] at hX); obtain ⟨hT, hk⟩ := bv_next hb (by (repeat (with_reducible first | assumption | apply Trk.alloc | apply Trk.setCell | apply Trk.drewN | apply Trk.drew | exact Trk.nil _))); simp only [SameOn, World.size_alloc, World.size_setCell, World.size_drew, size_drewN', and_true] at hk; have hsz := Below.size hb; (try simp only [World.size_alloc, World.size_setCell, World.size_drew, size_drewN'] at hsz)))
    refine bodyPost_ret (v := .tuple #[.agg #[.slice m.p1 R.a.length m.c1, .slice m.p2 R.b.length m.c2, .slice m.p3 R.c.length m.c3, .slice m.p4 R.d.length m.c4], .bool bb]) (by simp [results, Try.results103, go_sem, *]) rfl ?_
    exact ⟨m, rfl, by (repeat (first | (with_reducible exact Below.refl _ _) | (with_reducible assumption) | (with_reducible refine below_then ?_ (by assumption)) | (with_reducible refine Below.trans ?_ (by assumption)) | (with_reducible refine below_drewN ?_ _) | (with_reducible apply Below.drew) | (with_reducible refine below_alloc ?_ _) | refine Below.setCell ?_ (by first | (simp; done) | (simp; omega)) _)), RdX.base (by (repeat' (first | (with_reducible assumption) | (with_reducible apply RdX.setCell) | (with_reducible apply RdX.alloc) | (with_reducible apply RdX.later; rotate_left; with_reducible assumption) | (with_reducible apply RdX.turn; rotate_left; with_reducible assumption) | (with_reducible apply RdX.drewN))) <;> (first | omega | (simp; done) | (simp; omega))) (by first | omega | (simp; done) | (simp; omega)) (by first | omega | (simp; done) | (simp; omega))⟩
end Go.Proofs.Ytgkcfeaknehopaa
