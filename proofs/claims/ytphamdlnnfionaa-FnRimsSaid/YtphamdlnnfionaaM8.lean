/-
  Rims: the program's and the reference's. No condition but what each contract says.
  Cells on a plate: what is closed under neighbours is all; islands over a level and rims, counted. No condition but what each law says; nothing of the program is named here.
  The range of a plate (the program's and the reference's), and the law on it. No condition.
-/
import Derived.Test.YtphamdlnnfionaaM7
import Derived.Test.YtphamdlnnfionaaM4
set_option linter.unusedSimpArgs false
set_option linter.unusedVariables false
set_option linter.unusedSectionVars false
namespace Go.Proofs.Ytphamdlnnfionaa
open Go Go.RowKit
open Go.ChangeShapes Go.WideShapes Go.ChangeAt Go.RowKit Go.Joins
def rimB (P : Pl) (v : Nat) (i : Int) : Bool := fge .f32 (aE P i) (cn .f32 v) && (nbl P.W P.H i).any fun k => flt .f32 (aE P k) (cn .f32 v)
def rimL (P : Pl) (v : Nat) : Nat → List Int
  | 0 => []
  | k + 1 => if rimB P v k then rimL P v k ++ [(k : Int)] else rimL P v k
theorem rimL_yes {P : Pl} {v k : Nat} (h : rimB P v k = true) : rimL P v (k + 1) = rimL P v k ++ [(k : Int)] := by simp only [rimL]; rw [if_pos h]
theorem rimL_no {P : Pl} {v k : Nat} (h : rimB P v k = false) : rimL P v (k + 1) = rimL P v k := by simp only [rimL]; rw [if_neg (by rw [h]; simp)]
theorem rimL_len (P : Pl) (v : Nat) : ∀ k, (rimL P v k).length ≤ k
  | 0 => Nat.le_refl _
  | k + 1 => by
    have := rimL_len P v k
    simp only [rimL]; split
    · simp; omega
    · omega
def rimOk (P : Pl) (v : Nat) : Bool := P.ok && fin .f32 (cn .f32 v)
def rimV (P : Pl) (v : Nat) : List Int := if rimOk P v then rimL P v P.a.length else []
theorem rimV_ok {P : Pl} {v : Nat} (h : rimOk P v = true) : rimV P v = rimL P v P.a.length := by rw [rimV, h]; rfl
theorem rimV_no {P : Pl} {v : Nat} (h : rimOk P v = false) : rimV P v = [] := by rw [rimV, h]; rfl
set_option maxHeartbeats 1000000 in
theorem rim1_any (P : Pl) (l : Lay) (v : Nat) (k : Int) (p q : Nat) (w : World) (ha : PlAt P l w p 0) (hq : w.cell? ⟨q, 0, none⟩ = some (.float .f32 v)) (hs : P.fs w l) (h0 : P.ok = true) (hk : 0 ≤ k ∧ k ≤ P.W * P.H - 1) :
    Calls Try.prog 43 #[.int .i64 k, .pointer (some ⟨p, 0, none⟩), .pointer (some ⟨q, 0, none⟩)] w (RB w (flt .f32 (aE P k) (cn .f32 v))) := by
  have HS := Lib.hid hs
  clear hs
  obtain ⟨hW, hH, hla, hlb, hlc, hld⟩ := Pl.ok_len h0
  obtain ⟨b1, o1, z1, b2, o2, z2, b3, o3, z3, b4, o4, z4, rfl, ⟨⟨hz1, hz1'⟩, ⟨hz2, hz2'⟩, ⟨hz3, hz3'⟩, hz4, hz4'⟩, HA, HB, HC, HD⟩ := Pl.view HS.out h0
  have HLB : Hid (P.b.length = P.a.length) := by show _ = _; omega
  have HLC : Hid (P.c.length = P.a.length) := by show _ = _; omega
  have HLD : Hid (P.d.length = P.a.length) := by show _ = _; omega
  have HLA : Hid ((P.a.length : Int) = P.W * P.H) := hla
  (try dsimp only)
  clear hla hlb hlc hld
  obtain ⟨km, rfl⟩ := Int.eq_ofNat_of_zero_le hk.1
  have hka : km < P.a.length := by have := HLA.out; omega
  have ca := HA.out km hka
  have HX : Hid (aE P (km : Int) = cn .f32 (P.a.getD km 0)) := rfl
  rw [HX.out]
  generalize P.a.getD km 0 = x at ca
  obtain ⟨g0, g1, g2, g3, g4, g5⟩ := ha
  simp only [Nat.zero_add] at g0 g1 g2 g3 g4 g5
  clear HX HA HB HC HD
  go_enter Try.func43, Try.ntmps43
  go_wp2_with (first | (with_reducible refine at_list ?_; refine wpList_fop rfl rfl rfl rfl rfl ?_; intro r n hr0; have hr := hr0 _ _ (by first | with_reducible assumption | exact rfl) (by first | with_reducible assumption | exact rfl); clear hr0) | (with_reducible refine at_list ?_; refine wpList_neg rfl rfl rfl ?_; intro r hr0; have hr := hr0 _ (by first | with_reducible assumption | exact rfl); clear hr0) | (with_reducible refine at_list ?_; refine wpList_fop_g rfl rfl rfl rfl rfl ?_; intro r n hr0; have hr := hr0 _ _ (by first | with_reducible assumption | exact rfl) (by first | with_reducible assumption | exact rfl); clear hr0) | (with_reducible refine at_list ?_; refine wpList_wide_g rfl rfl Try.underlying26 Try.underlying54 rfl ?_; intro r n hr0; have hr := hr0 _ (by first | with_reducible assumption | exact rfl); clear hr0) | (with_reducible refine at_list ?_; refine wpList_wide rfl rfl rfl Try.underlying26 Try.underlying54 ?_; intro r n hr0; have hr := hr0 _ (by first | with_reducible assumption | exact rfl); clear hr0))
  all_goals (try ((first | (refine wp_some_lit (by kernel_rfl) (by kernel_rfl) ?_; (refine wpSome_one ?_; go_big_quiet_step (fail); refine wpQuiet_nil ?_); (refine wpSome_one ?_; go_big_quiet_step (fail); refine wpQuiet_nil ?_); (refine wpSome_one ?_; go_big_quiet_step (fail); refine wpQuiet_nil ?_); (refine wpSome_one ?_; go_big_quiet_step (fail); refine wpQuiet_nil ?_); (refine wpSome_one ?_; go_big_quiet_step (fail); refine wpQuiet_nil ?_); (refine wpSome_one ?_; go_big_quiet_step (fail); refine wpQuiet_nil ?_); (refine wpSome_one ?_; go_big_quiet_step (fail); refine wpQuiet_nil ?_); (refine wpSome_one ?_; go_big_quiet_step (fail); refine wpQuiet_nil ?_); refine wpSome_nil ?_; intro w' hw'; obtain ⟨nq, rfl⟩ := hw')); go_wp2_with (first | (with_reducible refine at_list ?_; refine wpList_fop rfl rfl rfl rfl rfl ?_; intro r n hr0; have hr := hr0 _ _ (by first | with_reducible assumption | exact rfl) (by first | with_reducible assumption | exact rfl); clear hr0) | (with_reducible refine at_list ?_; refine wpList_neg rfl rfl rfl ?_; intro r hr0; have hr := hr0 _ (by first | with_reducible assumption | exact rfl); clear hr0) | (with_reducible refine at_list ?_; refine wpList_fop_g rfl rfl rfl rfl rfl ?_; intro r n hr0; have hr := hr0 _ _ (by first | with_reducible assumption | exact rfl) (by first | with_reducible assumption | exact rfl); clear hr0) | (with_reducible refine at_list ?_; refine wpList_wide_g rfl rfl Try.underlying26 Try.underlying54 rfl ?_; intro r n hr0; have hr := hr0 _ (by first | with_reducible assumption | exact rfl); clear hr0) | (with_reducible refine at_list ?_; refine wpList_wide rfl rfl rfl Try.underlying26 Try.underlying54 ?_; intro r n hr0; have hr := hr0 _ (by first | with_reducible assumption | exact rfl); clear hr0))))
  all_goals (try (first | kernel_rfl | rfl))
  all_goals
    go_ret
    exact ⟨rfl, (by first | exact ⟨_, rfl⟩ | exact ⟨0, rfl⟩ | exact ⟨_, World.drewN_drewN ..⟩ | exact ⟨_, by simp only [World.drewN_drewN]; rfl⟩)⟩
set_option maxHeartbeats 8000000 in
theorem implRimOf_any (P : Pl) (l : Lay) (v : Nat) (w : World) (hs : P.fs w l) : Calls Try.prog 13 #[.agg #[.int .i64 P.W, .int .i64 P.H, .slice l.p1 P.a.length l.c1, .slice l.p2 P.b.length l.c2, .slice l.p3 P.c.length l.c3, .slice l.p4 P.d.length l.c4], .float .f32 v] w (BIB w (rimV P v) (rimOk P v)) := by
  have HS := Lib.hid hs
  clear hs
  have HV := Lib.hid (fun w h => implValidPlate_any P l w h)
  rcases h0 : P.ok
  · rw [h0] at HV
    have HO0 : Hid (rimOk P v = false) := by show _ = _; unfold rimOk; rw [h0]; rfl
    have HE := Lib.hid (rimV_no HO0.out)
    go_enter Try.func13, Try.ntmps13
    go_wp2_with (first | (with_reducible refine at_list ?_; refine wpList_fop rfl rfl rfl rfl rfl ?_; intro r n hr0; have hr := hr0 _ _ (by first | with_reducible assumption | exact rfl) (by first | with_reducible assumption | exact rfl); clear hr0) | (with_reducible refine at_list ?_; refine wpList_neg rfl rfl rfl ?_; intro r hr0; have hr := hr0 _ (by first | with_reducible assumption | exact rfl); clear hr0) | (with_reducible refine at_list ?_; refine wpList_fop_g rfl rfl rfl rfl rfl ?_; intro r n hr0; have hr := hr0 _ _ (by first | with_reducible assumption | exact rfl) (by first | with_reducible assumption | exact rfl); clear hr0) | (with_reducible refine at_list ?_; refine wpList_wide_g rfl rfl Try.underlying26 Try.underlying54 rfl ?_; intro r n hr0; have hr := hr0 _ (by first | with_reducible assumption | exact rfl); clear hr0) | (with_reducible refine at_list ?_; refine wpList_wide rfl rfl rfl Try.underlying26 Try.underlying54 ?_; intro r n hr0; have hr := hr0 _ (by first | with_reducible assumption | exact rfl); clear hr0) | (go_at_call 36; refine ((HV.out _ (HS.out.later (by (repeat (first | (with_reducible exact Below.refl _ _) | (with_reducible assumption) | (with_reducible refine below_then ?_ (by assumption)) | (with_reducible refine Below.trans ?_ (by assumption)) | (with_reducible refine below_drewN ?_ _) | (with_reducible apply Below.drew) | (with_reducible refine below_alloc ?_ _) | refine Below.setCell ?_ (by first | (simp; done) | (simp; omega)) _))))) ).mono ?_; rintro e w' ⟨rfl, hb⟩; obtain ⟨hT, hk⟩ := bv_next hb (by (repeat (with_reducible first | assumption | apply Trk.alloc | apply Trk.setCell | apply Trk.drewN | apply Trk.drew | exact Trk.nil _))); simp only [SameOn, World.size_alloc, World.size_setCell, World.size_drew, size_drewN', and_true] at hk; have hsz := Below.size hb; (try simp only [World.size_alloc, World.size_setCell, World.size_drew, size_drewN'] at hsz)) | (go_at_call 37; refine (IsFinite_any _ _).mono ?_; rintro e w' ⟨rfl, n, rfl⟩) | (go_at_call 38; refine (neighbours_any _ _ _ _ (by omega) (by omega) (by omega)).mono ?_; rintro e w' ⟨u, rfl, hb, hO⟩; obtain ⟨pu, cu, rfl⟩ := OI.shape hO; (try simp only [World.size_alloc, World.size_setCell, World.size_drew, World.drewN] at hO); obtain ⟨hT, hk⟩ := bv_next hb (by (repeat (with_reducible first | assumption | apply Trk.alloc | apply Trk.setCell | apply Trk.drewN | apply Trk.drew | exact Trk.nil _))); simp only [SameOn, World.size_alloc, World.size_setCell, World.size_drew, size_drewN', and_true] at hk; have hsz := Below.size hb; (try simp only [World.size_alloc, World.size_setCell, World.size_drew, size_drewN'] at hsz)))
    all_goals
      go_ret2
      exact ⟨_, by rw [HO0.out]; rfl, by (repeat (first | (with_reducible exact Below.refl _ _) | (with_reducible assumption) | (with_reducible refine below_then ?_ (by assumption)) | (with_reducible refine Below.trans ?_ (by assumption)) | (with_reducible refine below_drewN ?_ _) | (with_reducible apply Below.drew) | (with_reducible refine below_alloc ?_ _) | refine Below.setCell ?_ (by first | (simp; done) | (simp; omega)) _)), by rw [HE.out]; exact OI.nil0 _ _⟩
  rw [h0] at HV
  rcases hf : fin .f32 (cn .f32 v)
  · have HO0 : Hid (rimOk P v = false) := by show _ = _; unfold rimOk; rw [h0, hf]; rfl
    have HE := Lib.hid (rimV_no HO0.out)
    go_enter Try.func13, Try.ntmps13
    go_wp2_with (first | (with_reducible refine at_list ?_; refine wpList_fop rfl rfl rfl rfl rfl ?_; intro r n hr0; have hr := hr0 _ _ (by first | with_reducible assumption | exact rfl) (by first | with_reducible assumption | exact rfl); clear hr0) | (with_reducible refine at_list ?_; refine wpList_neg rfl rfl rfl ?_; intro r hr0; have hr := hr0 _ (by first | with_reducible assumption | exact rfl); clear hr0) | (with_reducible refine at_list ?_; refine wpList_fop_g rfl rfl rfl rfl rfl ?_; intro r n hr0; have hr := hr0 _ _ (by first | with_reducible assumption | exact rfl) (by first | with_reducible assumption | exact rfl); clear hr0) | (with_reducible refine at_list ?_; refine wpList_wide_g rfl rfl Try.underlying26 Try.underlying54 rfl ?_; intro r n hr0; have hr := hr0 _ (by first | with_reducible assumption | exact rfl); clear hr0) | (with_reducible refine at_list ?_; refine wpList_wide rfl rfl rfl Try.underlying26 Try.underlying54 ?_; intro r n hr0; have hr := hr0 _ (by first | with_reducible assumption | exact rfl); clear hr0) | (go_at_call 36; refine ((HV.out _ (HS.out.later (by (repeat (first | (with_reducible exact Below.refl _ _) | (with_reducible assumption) | (with_reducible refine below_then ?_ (by assumption)) | (with_reducible refine Below.trans ?_ (by assumption)) | (with_reducible refine below_drewN ?_ _) | (with_reducible apply Below.drew) | (with_reducible refine below_alloc ?_ _) | refine Below.setCell ?_ (by first | (simp; done) | (simp; omega)) _))))) ).mono ?_; rintro e w' ⟨rfl, hb⟩; obtain ⟨hT, hk⟩ := bv_next hb (by (repeat (with_reducible first | assumption | apply Trk.alloc | apply Trk.setCell | apply Trk.drewN | apply Trk.drew | exact Trk.nil _))); simp only [SameOn, World.size_alloc, World.size_setCell, World.size_drew, size_drewN', and_true] at hk; have hsz := Below.size hb; (try simp only [World.size_alloc, World.size_setCell, World.size_drew, size_drewN'] at hsz)) | (go_at_call 37; refine (IsFinite_any _ _).mono ?_; rintro e w' ⟨rfl, n, rfl⟩) | (go_at_call 38; refine (neighbours_any _ _ _ _ (by omega) (by omega) (by omega)).mono ?_; rintro e w' ⟨u, rfl, hb, hO⟩; obtain ⟨pu, cu, rfl⟩ := OI.shape hO; (try simp only [World.size_alloc, World.size_setCell, World.size_drew, World.drewN] at hO); obtain ⟨hT, hk⟩ := bv_next hb (by (repeat (with_reducible first | assumption | apply Trk.alloc | apply Trk.setCell | apply Trk.drewN | apply Trk.drew | exact Trk.nil _))); simp only [SameOn, World.size_alloc, World.size_setCell, World.size_drew, size_drewN', and_true] at hk; have hsz := Below.size hb; (try simp only [World.size_alloc, World.size_setCell, World.size_drew, size_drewN'] at hsz)))
    all_goals
      go_ret2
      exact ⟨_, by rw [HO0.out]; rfl, by (repeat (first | (with_reducible exact Below.refl _ _) | (with_reducible assumption) | (with_reducible refine below_then ?_ (by assumption)) | (with_reducible refine Below.trans ?_ (by assumption)) | (with_reducible refine below_drewN ?_ _) | (with_reducible apply Below.drew) | (with_reducible refine below_alloc ?_ _) | refine Below.setCell ?_ (by first | (simp; done) | (simp; omega)) _)), by rw [HE.out]; exact OI.nil0 _ _⟩
  have HO1 : Hid (rimOk P v = true) := by show _ = _; unfold rimOk; rw [h0, hf]; rfl
  have HE := Lib.hid (rimV_ok HO1.out)
  have HN0 := Lib.hid (fun (k : Nat) (hk : k < P.a.length) l w => neighbours_any P l k w (Pl.ok_len h0).1 (Pl.ok_len h0).2.1 (by have := (Pl.ok_len h0).2.2.1; omega))
  have HR1 := Lib.hid (fun l k p q w h1 h2 h3 h4 => rim1_any P l v k p q w h1 h2 h3 h0 h4)
  obtain ⟨hW, hH, hla, hlb, hlc, hld⟩ := Pl.ok_len h0
  obtain ⟨b1, o1, z1, b2, o2, z2, b3, o3, z3, b4, o4, z4, rfl, ⟨⟨hz1, hz1'⟩, ⟨hz2, hz2'⟩, ⟨hz3, hz3'⟩, hz4, hz4'⟩, HA, HB, HC, HD⟩ := Pl.view HS.out h0
  have HLB : Hid (P.b.length = P.a.length) := by show _ = _; omega
  have HLC : Hid (P.c.length = P.a.length) := by show _ = _; omega
  have HLD : Hid (P.d.length = P.a.length) := by show _ = _; omega
  have HLA : Hid ((P.a.length : Int) = P.W * P.H) := hla
  (try dsimp only)
  clear hla hlb hlc hld
  obtain ⟨hn1, hn2⟩ := Pl.ok_n h0
  have hla := HLA.out
  have hlaN : P.a.length ≤ 144 := by omega
  go_enter Try.func13, Try.ntmps13
  go_wp2_with (first | (with_reducible refine at_list ?_; refine wpList_fop rfl rfl rfl rfl rfl ?_; intro r n hr0; have hr := hr0 _ _ (by first | with_reducible assumption | exact rfl) (by first | with_reducible assumption | exact rfl); clear hr0) | (with_reducible refine at_list ?_; refine wpList_neg rfl rfl rfl ?_; intro r hr0; have hr := hr0 _ (by first | with_reducible assumption | exact rfl); clear hr0) | (with_reducible refine at_list ?_; refine wpList_fop_g rfl rfl rfl rfl rfl ?_; intro r n hr0; have hr := hr0 _ _ (by first | with_reducible assumption | exact rfl) (by first | with_reducible assumption | exact rfl); clear hr0) | (with_reducible refine at_list ?_; refine wpList_wide_g rfl rfl Try.underlying26 Try.underlying54 rfl ?_; intro r n hr0; have hr := hr0 _ (by first | with_reducible assumption | exact rfl); clear hr0) | (with_reducible refine at_list ?_; refine wpList_wide rfl rfl rfl Try.underlying26 Try.underlying54 ?_; intro r n hr0; have hr := hr0 _ (by first | with_reducible assumption | exact rfl); clear hr0) | (go_at_call 36; refine ((HV.out _ (HS.out.later (by (repeat (first | (with_reducible exact Below.refl _ _) | (with_reducible assumption) | (with_reducible refine below_then ?_ (by assumption)) | (with_reducible refine Below.trans ?_ (by assumption)) | (with_reducible refine below_drewN ?_ _) | (with_reducible apply Below.drew) | (with_reducible refine below_alloc ?_ _) | refine Below.setCell ?_ (by first | (simp; done) | (simp; omega)) _))))) ).mono ?_; rintro e w' ⟨rfl, hb⟩; obtain ⟨hT, hk⟩ := bv_next hb (by (repeat (with_reducible first | assumption | apply Trk.alloc | apply Trk.setCell | apply Trk.drewN | apply Trk.drew | exact Trk.nil _))); simp only [SameOn, World.size_alloc, World.size_setCell, World.size_drew, size_drewN', and_true] at hk; have hsz := Below.size hb; (try simp only [World.size_alloc, World.size_setCell, World.size_drew, size_drewN'] at hsz)) | (go_at_call 37; refine (IsFinite_any _ _).mono ?_; rintro e w' ⟨rfl, n, rfl⟩) | (go_at_call 38; refine (neighbours_any _ _ _ _ (by omega) (by omega) (by omega)).mono ?_; rintro e w' ⟨u, rfl, hb, hO⟩; obtain ⟨pu, cu, rfl⟩ := OI.shape hO; (try simp only [World.size_alloc, World.size_setCell, World.size_drew, World.drewN] at hO); obtain ⟨hT, hk⟩ := bv_next hb (by (repeat (with_reducible first | assumption | apply Trk.alloc | apply Trk.setCell | apply Trk.drewN | apply Trk.drew | exact Trk.nil _))); simp only [SameOn, World.size_alloc, World.size_setCell, World.size_drew, size_drewN', and_true] at hk; have hsz := Below.size hb; (try simp only [World.size_alloc, World.size_setCell, World.size_drew, size_drewN'] at hsz)))
  refine wp_named ?_
  intro ws hws
  have hBs : Below w.heap.size w ws := by rw [hws]; (repeat (first | (with_reducible exact Below.refl _ _) | (with_reducible assumption) | (with_reducible refine below_then ?_ (by assumption)) | (with_reducible refine Below.trans ?_ (by assumption)) | (with_reducible refine below_drewN ?_ _) | (with_reducible apply Below.drew) | (with_reducible refine below_alloc ?_ _) | refine Below.setCell ?_ (by first | (simp; done) | (simp; omega)) _))
  have hzs : w.heap.size + 2 ≤ ws.heap.size := by rw [hws]; first | omega | (simp; done) | (simp; omega)
  have hat : PlAt P ⟨some ⟨b1, o1, none⟩, z1, some ⟨b2, o2, none⟩, z2, some ⟨b3, o3, none⟩, z3, some ⟨b4, o4, none⟩, z4⟩ ws w.heap.size 0 := by rw [hws]; exact (by unfold PlAt; refine ⟨?_, ?_, ?_, ?_, ?_, ?_⟩ <;> go_simp)
  have hlv : ws.cell? ⟨w.heap.size + 1, 0, none⟩ = some (.float .f32 v) := by rw [hws]; go_simp
  have HO00 : Hid (OI (w.heap.size + 2) ws (.slice (some ⟨w'.heap.size, 0, none⟩) 0 0) []) := by rw [hws]; first | exact OI.empty _ _ rfl (by first | omega | (simp; omega)) rfl | exact (OI.empty _ _ rfl (by first | omega | (simp; omega)) rfl).drewN _
  clear hws hb hk hT hsz
  go_loopw [6, 7, 22] (fun s _ t wr => ∃ (k c : Nat) (q : Option Addr) (L : List Int), k ≤ P.a.length ∧ t = .int .i64 k ∧ s = .slice q L.length c ∧ L.length ≤ k ∧ Hid (OI (w.heap.size + 2) wr (.slice q L.length c) L) ∧ Hid (rimL P v k = L) ∧ Below w.heap.size w wr ∧ w.heap.size + 2 ≤ wr.heap.size ∧ Hid (PlAt P ⟨some ⟨b1, o1, none⟩, z1, some ⟨b2, o2, none⟩, z2, some ⟨b3, o3, none⟩, z3, some ⟨b4, o4, none⟩, z4⟩ wr w.heap.size 0) ∧ Hid (wr.cell? ⟨w.heap.size + 1, 0, none⟩ = some (.float .f32 v))) (fun _ _ t _ => P.a.length - (intOf t).toNat)
  case atStart => exact ⟨0, 0, some ⟨_, 0, none⟩, [], Nat.zero_le _, rfl, rfl, Nat.le_refl _, HO00.out, rfl, hBs, hzs, hat, hlv⟩
  case round =>
    clear hBs hzs hat HO00 hlv
    obtain ⟨k, c, q, L, hk, rfl, rfl, hLk, HO, HL, hB, hzr, HAT, HLV⟩ := hrel
    obtain ⟨g0, g1, g2, g3, g4, g5⟩ := HAT.out
    simp only [Nat.zero_add] at g0 g1 g2 g3 g4 g5
    have glv := HLV.out
    by_cases hlt : k < P.a.length
    · have hlt2 : (k : Int) < P.W * P.H := by omega
      have ca := cell_later hB (HA.out k hlt)
      have hT : Trk wr [w.heap.size, w.heap.size + 1, b1] := (((Trk.nil wr).more (World.block_lt_of_cell? _ _ ca)).more (show w.heap.size + 1 < wr.heap.size by omega)).more (by omega)
      have HNk := Lib.hid (HN0.out k hlt)
      have HA2 := Lib.hid (fun j h => nbl_at (W := P.W) (H := P.H) (i := k) (j := j) h)
      have HEY0 : Hid (rimB P v k = true → rimL P v (k + 1) = rimL P v k ++ [(k : Int)]) := fun h => rimL_yes h
      have HEN0 : Hid (rimB P v k = false → rimL P v (k + 1) = rimL P v k) := fun h => rimL_no h
      have HRB : Hid (rimB P v k = (fge .f32 (cn .f32 (P.a.getD k 0)) (cn .f32 v) && (nbl P.W P.H k).any fun k => flt .f32 (aE P k) (cn .f32 v))) := rfl
      generalize nbl P.W P.H k = M at HNk HA2 HRB
      generalize P.a.getD k 0 = x at ca HRB
      clear HA HB HC HD
      rcases f1 : fge .f32 (cn .f32 x) (cn .f32 v)
      · have HEN := Lib.hid (HEN0.out (by rw [HRB.out, f1]; rfl))
        clear HEY0 HEN0
        go_wp2_with (first | (with_reducible refine at_list ?_; refine wpList_fop rfl rfl rfl rfl rfl ?_; intro r n hr0; have hr := hr0 _ _ (by first | with_reducible assumption | exact rfl) (by first | with_reducible assumption | exact rfl); clear hr0) | (with_reducible refine at_list ?_; refine wpList_neg rfl rfl rfl ?_; intro r hr0; have hr := hr0 _ (by first | with_reducible assumption | exact rfl); clear hr0) | (with_reducible refine at_list ?_; refine wpList_fop_g rfl rfl rfl rfl rfl ?_; intro r n hr0; have hr := hr0 _ _ (by first | with_reducible assumption | exact rfl) (by first | with_reducible assumption | exact rfl); clear hr0) | (with_reducible refine at_list ?_; refine wpList_wide_g rfl rfl Try.underlying26 Try.underlying54 rfl ?_; intro r n hr0; have hr := hr0 _ (by first | with_reducible assumption | exact rfl); clear hr0) | (with_reducible refine at_list ?_; refine wpList_wide rfl rfl rfl Try.underlying26 Try.underlying54 ?_; intro r n hr0; have hr := hr0 _ (by first | with_reducible assumption | exact rfl); clear hr0) | (go_at_call 36; refine (implValidPlate_any _ _ _ (by assumption)).mono ?_; rintro e w' ⟨rfl, hb⟩; obtain ⟨hT, hk⟩ := bv_next hb (by (repeat (with_reducible first | assumption | apply Trk.alloc | apply Trk.setCell | apply Trk.drewN | apply Trk.drew | exact Trk.nil _))); simp only [SameOn, World.size_alloc, World.size_setCell, World.size_drew, size_drewN', and_true] at hk; have hsz := Below.size hb; (try simp only [World.size_alloc, World.size_setCell, World.size_drew, size_drewN'] at hsz)) | (go_at_call 37; refine (IsFinite_any _ _).mono ?_; rintro e w' ⟨rfl, n, rfl⟩) | (go_at_call 38; refine (neighbours_any _ _ _ _ (by omega) (by omega) (by omega)).mono ?_; rintro e w' ⟨u, rfl, hb, hO⟩; obtain ⟨pu, cu, rfl⟩ := OI.shape hO; (try simp only [World.size_alloc, World.size_setCell, World.size_drew, World.drewN] at hO); obtain ⟨hT, hk⟩ := bv_next hb (by (repeat (with_reducible first | assumption | apply Trk.alloc | apply Trk.setCell | apply Trk.drewN | apply Trk.drew | exact Trk.nil _))); simp only [SameOn, World.size_alloc, World.size_setCell, World.size_drew, size_drewN', and_true] at hk; have hsz := Below.size hb; (try simp only [World.size_alloc, World.size_setCell, World.size_drew, size_drewN'] at hsz)))
        (apply wp_region_plan; ((apply wpC_det; (case hw => exact rfl); (case hs => (intro cs b h; cases h)); (case h1 => (intro w'; go_simp <;> exact rfl))); apply wpC_norm; (case ha => (simp only [Act.put, List.setIfInBounds_toArray, List.set_cons_zero, List.set_cons_succ]; exact rfl))); ((apply wpC_val; (case hw => exact rfl); (case h1 => (intro w' hb hk0; obtain ⟨hT, hk⟩ := bv_next hb (by (repeat (with_reducible first | assumption | apply Trk.alloc | apply Trk.setCell | apply Trk.drewN | apply Trk.drew | exact Trk.nil _))); simp only [SameOn, World.size_alloc, World.size_setCell, World.size_drew, size_drewN', and_true] at hk; have hsz := Below.size hb; (try simp only [World.size_alloc, World.size_setCell, World.size_drew, size_drewN'] at hsz); go_simp <;> exact rfl))); apply wpC_norm; (case ha => (simp only [Act.put, List.setIfInBounds_toArray, List.set_cons_zero, List.set_cons_succ]; exact rfl))); ((apply wpC_det; (case hw => exact rfl); (case hs => (intro cs b h; cases h)); (case h1 => (intro w'; go_simp <;> exact rfl))); apply wpC_norm; (case ha => (simp only [Act.put, List.setIfInBounds_toArray, List.set_cons_zero, List.set_cons_succ]; exact rfl))); ((apply wpC_det; (case hw => exact rfl); (case hs => (intro cs b h; cases h)); (case h1 => (intro w'; go_simp <;> exact rfl))); apply wpC_norm; (case ha => (simp only [Act.put, List.setIfInBounds_toArray, List.set_cons_zero, List.set_cons_succ]; exact rfl))); ((apply wpC_val; (case hw => exact rfl); (case h1 => (intro w' hb hk0; obtain ⟨hT, hk⟩ := bv_next hb (by (repeat (with_reducible first | assumption | apply Trk.alloc | apply Trk.setCell | apply Trk.drewN | apply Trk.drew | exact Trk.nil _))); simp only [SameOn, World.size_alloc, World.size_setCell, World.size_drew, size_drewN', and_true] at hk; have hsz := Below.size hb; (try simp only [World.size_alloc, World.size_setCell, World.size_drew, size_drewN'] at hsz); go_simp <;> exact rfl))); apply wpC_norm; (case ha => (simp only [Act.put, List.setIfInBounds_toArray, List.set_cons_zero, List.set_cons_succ]; exact rfl))); ((apply wpC_val; (case hw => exact rfl); (case h1 => (intro w' hb hk0; obtain ⟨hT, hk⟩ := bv_next hb (by (repeat (with_reducible first | assumption | apply Trk.alloc | apply Trk.setCell | apply Trk.drewN | apply Trk.drew | exact Trk.nil _))); simp only [SameOn, World.size_alloc, World.size_setCell, World.size_drew, size_drewN', and_true] at hk; have hsz := Below.size hb; (try simp only [World.size_alloc, World.size_setCell, World.size_drew, size_drewN'] at hsz); go_simp <;> exact rfl))); apply wpC_norm; (case ha => (simp only [Act.put, List.setIfInBounds_toArray, List.set_cons_zero, List.set_cons_succ]; exact rfl))); ((apply wpC_det; (case hw => exact rfl); (case hs => (intro cs b h; cases h)); (case h1 => (intro w'; go_simp <;> exact rfl))); apply wpC_norm; (case ha => (simp only [Act.put, List.setIfInBounds_toArray, List.set_cons_zero, List.set_cons_succ]; exact rfl))); ((apply wpC_det; (case hw => exact rfl); (case hs => (intro cs b h; cases h)); (case h1 => (intro w'; go_simp <;> exact rfl))); apply wpC_norm; (case ha => (simp only [Act.put, List.setIfInBounds_toArray, List.set_cons_zero, List.set_cons_succ]; exact rfl))); ((first | (apply wpC_skip; (case hw => exact rfl)) | (apply wpC_val; (case hw => exact rfl); (case h1 => (intro w' hb hk0; obtain ⟨hT, hk⟩ := bv_next hb (by (repeat (with_reducible first | assumption | apply Trk.alloc | apply Trk.setCell | apply Trk.drewN | apply Trk.drew | exact Trk.nil _))); simp only [SameOn, World.size_alloc, World.size_setCell, World.size_drew, size_drewN', and_true] at hk; have hsz := Below.size hb; (try simp only [World.size_alloc, World.size_setCell, World.size_drew, size_drewN'] at hsz); go_simp <;> exact rfl)))); apply wpC_norm; (case ha => (simp only [Act.put, List.setIfInBounds_toArray, List.set_cons_zero, List.set_cons_succ]; exact rfl))); ((first | (apply wpC_skip; (case hw => exact rfl)) | (apply wpC_det; (case hw => exact rfl); (case hs => (intro cs b h; cases h)); (case h1 => (intro w'; go_simp <;> exact rfl)))); apply wpC_norm; (case ha => (simp only [Act.put, List.setIfInBounds_toArray, List.set_cons_zero, List.set_cons_succ]; exact rfl))); ((first | (apply wpC_skip; (case hw => exact rfl)) | (apply wpC_callI; (case hw => exact rfl); (case h1 => (intro w'; go_simp; exact ⟨rfl, rfl⟩)); (case hc => (intro w' hb hk0; obtain ⟨hT, hk⟩ := bv_next hb (by (repeat (with_reducible first | assumption | apply Trk.alloc | apply Trk.setCell | apply Trk.drewN | apply Trk.drew | exact Trk.nil _))); simp only [SameOn, World.size_alloc, World.size_setCell, World.size_drew, size_drewN', and_true] at hk; have hsz := Below.size hb; (try simp only [World.size_alloc, World.size_setCell, World.size_drew, size_drewN'] at hsz); exact ((HNk.out ⟨some ⟨b1, o1, none⟩, z1, some ⟨b2, o2, none⟩, z2, some ⟨b3, o3, none⟩, z3, some ⟨b4, o4, none⟩, z4⟩ _) ))); intro pu cu)); apply wpC_norm; (case ha => (simp only [Act.put, List.setIfInBounds_toArray, List.set_cons_zero, List.set_cons_succ]; exact rfl))); ((first | (apply wpC_skip; (case hw => exact rfl)) | (apply wpC_det; (case hw => exact rfl); (case hs => (intro cs b h; cases h)); (case h1 => (intro w'; go_simp <;> exact rfl)))); apply wpC_norm; (case ha => (simp only [Act.put, List.setIfInBounds_toArray, List.set_cons_zero, List.set_cons_succ]; exact rfl))); ((first | (apply wpC_skip; (case hw => exact rfl)) | (apply wpC_callB _; ((case hw => exact rfl)); (case h1 => (intro w'; go_simp; exact ⟨rfl, rfl⟩)); (case hc => (intro w' hb hk0; obtain ⟨hT, hk⟩ := bv_next hb (by (repeat (with_reducible first | assumption | apply Trk.alloc | apply Trk.setCell | apply Trk.drewN | apply Trk.drew | exact Trk.nil _))); simp only [SameOn, World.size_alloc, World.size_setCell, World.size_drew, size_drewN', and_true] at hk; have hsz := Below.size hb; (try simp only [World.size_alloc, World.size_setCell, World.size_drew, size_drewN'] at hsz); refine ((ContainsFuncI2_any 43 (.pointer (some ⟨w.heap.size, 0, none⟩)) (.pointer (some ⟨w.heap.size + 1, 0, none⟩)) (fun k => flt .f32 (aE P k) (cn .f32 v)) M _ _ (OI.fs (show OI _ _ _ M from hk0.1)) (fun x w' => by kernel_rfl) (fun j hj w2 hb2 => (HR1.out ⟨some ⟨b1, o1, none⟩, z1, some ⟨b2, o2, none⟩, z2, some ⟨b3, o3, none⟩, z3, some ⟨b4, o4, none⟩, z4⟩ _ _ _ w2 (PlAt.later (PlAt.later HAT.out hb (by omega)) hb2 (by omega)) ((hb2.cell (p := ⟨w.heap.size + 1, 0, none⟩) (show w.heap.size + 1 < w'.heap.size by omega)).trans ((hb.cell (p := ⟨w.heap.size + 1, 0, none⟩) (show w.heap.size + 1 < wr.heap.size by omega)).trans HLV.out)) (HS.out.later (below_then hB (below_then hb hb2))) (HA2.out j hj)).mono fun e w3 h => RB.bv h)) ).mono ?_; intro e2 w3 h; (try simp only [*] at h); exact h)))); apply wpC_norm; (case ha => (simp only [Act.put, List.setIfInBounds_toArray, List.set_cons_zero, List.set_cons_succ]; exact rfl))); ((apply wpC_det; (case hw => exact rfl); (case hs => (intro cs b h; cases h)); (case h1 => (intro w'; go_simp <;> exact rfl))); apply wpC_norm; (case ha => (simp only [Act.put, List.setIfInBounds_toArray, List.set_cons_zero, List.set_cons_succ]; exact rfl))); refine wpC_nil ?_; intro w' hb hkk; obtain ⟨hT, hk⟩ := bv_next hb (by (repeat (with_reducible first | assumption | apply Trk.alloc | apply Trk.setCell | apply Trk.drewN | apply Trk.drew | exact Trk.nil _))); simp only [SameOn, World.size_alloc, World.size_setCell, World.size_drew, size_drewN', and_true] at hk; have hsz := Below.size hb; (try simp only [World.size_alloc, World.size_setCell, World.size_drew, size_drewN'] at hsz))
        go_wp2_with (first | (with_reducible refine at_list ?_; refine wpList_fop rfl rfl rfl rfl rfl ?_; intro r n hr0; have hr := hr0 _ _ (by first | with_reducible assumption | exact rfl) (by first | with_reducible assumption | exact rfl); clear hr0) | (with_reducible refine at_list ?_; refine wpList_neg rfl rfl rfl ?_; intro r hr0; have hr := hr0 _ (by first | with_reducible assumption | exact rfl); clear hr0) | (with_reducible refine at_list ?_; refine wpList_fop_g rfl rfl rfl rfl rfl ?_; intro r n hr0; have hr := hr0 _ _ (by first | with_reducible assumption | exact rfl) (by first | with_reducible assumption | exact rfl); clear hr0) | (with_reducible refine at_list ?_; refine wpList_wide_g rfl rfl Try.underlying26 Try.underlying54 rfl ?_; intro r n hr0; have hr := hr0 _ (by first | with_reducible assumption | exact rfl); clear hr0) | (with_reducible refine at_list ?_; refine wpList_wide rfl rfl rfl Try.underlying26 Try.underlying54 ?_; intro r n hr0; have hr := hr0 _ (by first | with_reducible assumption | exact rfl); clear hr0) | (go_at_call 36; refine (implValidPlate_any _ _ _ (by assumption)).mono ?_; rintro e w' ⟨rfl, hb⟩; obtain ⟨hT, hk⟩ := bv_next hb (by (repeat (with_reducible first | assumption | apply Trk.alloc | apply Trk.setCell | apply Trk.drewN | apply Trk.drew | exact Trk.nil _))); simp only [SameOn, World.size_alloc, World.size_setCell, World.size_drew, size_drewN', and_true] at hk; have hsz := Below.size hb; (try simp only [World.size_alloc, World.size_setCell, World.size_drew, size_drewN'] at hsz)) | (go_at_call 37; refine (IsFinite_any _ _).mono ?_; rintro e w' ⟨rfl, n, rfl⟩) | (go_at_call 38; refine (neighbours_any _ _ _ _ (by omega) (by omega) (by omega)).mono ?_; rintro e w' ⟨u, rfl, hb, hO⟩; obtain ⟨pu, cu, rfl⟩ := OI.shape hO; (try simp only [World.size_alloc, World.size_setCell, World.size_drew, World.drewN] at hO); obtain ⟨hT, hk⟩ := bv_next hb (by (repeat (with_reducible first | assumption | apply Trk.alloc | apply Trk.setCell | apply Trk.drewN | apply Trk.drew | exact Trk.nil _))); simp only [SameOn, World.size_alloc, World.size_setCell, World.size_drew, size_drewN', and_true] at hk; have hsz := Below.size hb; (try simp only [World.size_alloc, World.size_setCell, World.size_drew, size_drewN'] at hsz)))
        go_roundw
        case rel => exact ⟨k + 1, c, q, L, by omega, by go_num, rfl, by omega, HO.out.later hb, by show _ = _; rw [HEN.out, HL.out], by (repeat (first | (with_reducible exact Below.refl _ _) | (with_reducible assumption) | (with_reducible refine below_then ?_ (by assumption)) | (with_reducible refine Below.trans ?_ (by assumption)) | (with_reducible refine below_drewN ?_ _) | (with_reducible apply Below.drew) | (with_reducible refine below_alloc ?_ _) | refine Below.setCell ?_ (by first | (simp; done) | (simp; omega)) _)), by omega, (by unfold PlAt; refine ⟨?_, ?_, ?_, ?_, ?_, ?_⟩ <;> go_simp), by show _ = _; go_simp⟩
        case measure => simp [intOf]; omega
        all_goals first | kernel_rfl | rfl
      rcases f2 : M.any fun k => flt .f32 (aE P k) (cn .f32 v)
      · have HEN := Lib.hid (HEN0.out (by rw [HRB.out, f1, f2]; rfl))
        clear HEY0 HEN0
        go_wp2_with (first | (with_reducible refine at_list ?_; refine wpList_fop rfl rfl rfl rfl rfl ?_; intro r n hr0; have hr := hr0 _ _ (by first | with_reducible assumption | exact rfl) (by first | with_reducible assumption | exact rfl); clear hr0) | (with_reducible refine at_list ?_; refine wpList_neg rfl rfl rfl ?_; intro r hr0; have hr := hr0 _ (by first | with_reducible assumption | exact rfl); clear hr0) | (with_reducible refine at_list ?_; refine wpList_fop_g rfl rfl rfl rfl rfl ?_; intro r n hr0; have hr := hr0 _ _ (by first | with_reducible assumption | exact rfl) (by first | with_reducible assumption | exact rfl); clear hr0) | (with_reducible refine at_list ?_; refine wpList_wide_g rfl rfl Try.underlying26 Try.underlying54 rfl ?_; intro r n hr0; have hr := hr0 _ (by first | with_reducible assumption | exact rfl); clear hr0) | (with_reducible refine at_list ?_; refine wpList_wide rfl rfl rfl Try.underlying26 Try.underlying54 ?_; intro r n hr0; have hr := hr0 _ (by first | with_reducible assumption | exact rfl); clear hr0) | (go_at_call 36; refine (implValidPlate_any _ _ _ (by assumption)).mono ?_; rintro e w' ⟨rfl, hb⟩; obtain ⟨hT, hk⟩ := bv_next hb (by (repeat (with_reducible first | assumption | apply Trk.alloc | apply Trk.setCell | apply Trk.drewN | apply Trk.drew | exact Trk.nil _))); simp only [SameOn, World.size_alloc, World.size_setCell, World.size_drew, size_drewN', and_true] at hk; have hsz := Below.size hb; (try simp only [World.size_alloc, World.size_setCell, World.size_drew, size_drewN'] at hsz)) | (go_at_call 37; refine (IsFinite_any _ _).mono ?_; rintro e w' ⟨rfl, n, rfl⟩) | (go_at_call 38; refine (neighbours_any _ _ _ _ (by omega) (by omega) (by omega)).mono ?_; rintro e w' ⟨u, rfl, hb, hO⟩; obtain ⟨pu, cu, rfl⟩ := OI.shape hO; (try simp only [World.size_alloc, World.size_setCell, World.size_drew, World.drewN] at hO); obtain ⟨hT, hk⟩ := bv_next hb (by (repeat (with_reducible first | assumption | apply Trk.alloc | apply Trk.setCell | apply Trk.drewN | apply Trk.drew | exact Trk.nil _))); simp only [SameOn, World.size_alloc, World.size_setCell, World.size_drew, size_drewN', and_true] at hk; have hsz := Below.size hb; (try simp only [World.size_alloc, World.size_setCell, World.size_drew, size_drewN'] at hsz)))
        (apply wp_region_plan; ((apply wpC_det; (case hw => exact rfl); (case hs => (intro cs b h; cases h)); (case h1 => (intro w'; go_simp <;> exact rfl))); apply wpC_norm; (case ha => (simp only [Act.put, List.setIfInBounds_toArray, List.set_cons_zero, List.set_cons_succ]; exact rfl))); ((apply wpC_val; (case hw => exact rfl); (case h1 => (intro w' hb hk0; obtain ⟨hT, hk⟩ := bv_next hb (by (repeat (with_reducible first | assumption | apply Trk.alloc | apply Trk.setCell | apply Trk.drewN | apply Trk.drew | exact Trk.nil _))); simp only [SameOn, World.size_alloc, World.size_setCell, World.size_drew, size_drewN', and_true] at hk; have hsz := Below.size hb; (try simp only [World.size_alloc, World.size_setCell, World.size_drew, size_drewN'] at hsz); go_simp <;> exact rfl))); apply wpC_norm; (case ha => (simp only [Act.put, List.setIfInBounds_toArray, List.set_cons_zero, List.set_cons_succ]; exact rfl))); ((apply wpC_det; (case hw => exact rfl); (case hs => (intro cs b h; cases h)); (case h1 => (intro w'; go_simp <;> exact rfl))); apply wpC_norm; (case ha => (simp only [Act.put, List.setIfInBounds_toArray, List.set_cons_zero, List.set_cons_succ]; exact rfl))); ((apply wpC_det; (case hw => exact rfl); (case hs => (intro cs b h; cases h)); (case h1 => (intro w'; go_simp <;> exact rfl))); apply wpC_norm; (case ha => (simp only [Act.put, List.setIfInBounds_toArray, List.set_cons_zero, List.set_cons_succ]; exact rfl))); ((apply wpC_val; (case hw => exact rfl); (case h1 => (intro w' hb hk0; obtain ⟨hT, hk⟩ := bv_next hb (by (repeat (with_reducible first | assumption | apply Trk.alloc | apply Trk.setCell | apply Trk.drewN | apply Trk.drew | exact Trk.nil _))); simp only [SameOn, World.size_alloc, World.size_setCell, World.size_drew, size_drewN', and_true] at hk; have hsz := Below.size hb; (try simp only [World.size_alloc, World.size_setCell, World.size_drew, size_drewN'] at hsz); go_simp <;> exact rfl))); apply wpC_norm; (case ha => (simp only [Act.put, List.setIfInBounds_toArray, List.set_cons_zero, List.set_cons_succ]; exact rfl))); ((apply wpC_val; (case hw => exact rfl); (case h1 => (intro w' hb hk0; obtain ⟨hT, hk⟩ := bv_next hb (by (repeat (with_reducible first | assumption | apply Trk.alloc | apply Trk.setCell | apply Trk.drewN | apply Trk.drew | exact Trk.nil _))); simp only [SameOn, World.size_alloc, World.size_setCell, World.size_drew, size_drewN', and_true] at hk; have hsz := Below.size hb; (try simp only [World.size_alloc, World.size_setCell, World.size_drew, size_drewN'] at hsz); go_simp <;> exact rfl))); apply wpC_norm; (case ha => (simp only [Act.put, List.setIfInBounds_toArray, List.set_cons_zero, List.set_cons_succ]; exact rfl))); ((apply wpC_det; (case hw => exact rfl); (case hs => (intro cs b h; cases h)); (case h1 => (intro w'; go_simp <;> exact rfl))); apply wpC_norm; (case ha => (simp only [Act.put, List.setIfInBounds_toArray, List.set_cons_zero, List.set_cons_succ]; exact rfl))); ((apply wpC_det; (case hw => exact rfl); (case hs => (intro cs b h; cases h)); (case h1 => (intro w'; go_simp <;> exact rfl))); apply wpC_norm; (case ha => (simp only [Act.put, List.setIfInBounds_toArray, List.set_cons_zero, List.set_cons_succ]; exact rfl))); ((first | (apply wpC_skip; (case hw => exact rfl)) | (apply wpC_val; (case hw => exact rfl); (case h1 => (intro w' hb hk0; obtain ⟨hT, hk⟩ := bv_next hb (by (repeat (with_reducible first | assumption | apply Trk.alloc | apply Trk.setCell | apply Trk.drewN | apply Trk.drew | exact Trk.nil _))); simp only [SameOn, World.size_alloc, World.size_setCell, World.size_drew, size_drewN', and_true] at hk; have hsz := Below.size hb; (try simp only [World.size_alloc, World.size_setCell, World.size_drew, size_drewN'] at hsz); go_simp <;> exact rfl)))); apply wpC_norm; (case ha => (simp only [Act.put, List.setIfInBounds_toArray, List.set_cons_zero, List.set_cons_succ]; exact rfl))); ((first | (apply wpC_skip; (case hw => exact rfl)) | (apply wpC_det; (case hw => exact rfl); (case hs => (intro cs b h; cases h)); (case h1 => (intro w'; go_simp <;> exact rfl)))); apply wpC_norm; (case ha => (simp only [Act.put, List.setIfInBounds_toArray, List.set_cons_zero, List.set_cons_succ]; exact rfl))); ((first | (apply wpC_skip; (case hw => exact rfl)) | (apply wpC_callI; (case hw => exact rfl); (case h1 => (intro w'; go_simp; exact ⟨rfl, rfl⟩)); (case hc => (intro w' hb hk0; obtain ⟨hT, hk⟩ := bv_next hb (by (repeat (with_reducible first | assumption | apply Trk.alloc | apply Trk.setCell | apply Trk.drewN | apply Trk.drew | exact Trk.nil _))); simp only [SameOn, World.size_alloc, World.size_setCell, World.size_drew, size_drewN', and_true] at hk; have hsz := Below.size hb; (try simp only [World.size_alloc, World.size_setCell, World.size_drew, size_drewN'] at hsz); exact ((HNk.out ⟨some ⟨b1, o1, none⟩, z1, some ⟨b2, o2, none⟩, z2, some ⟨b3, o3, none⟩, z3, some ⟨b4, o4, none⟩, z4⟩ _) ))); intro pu cu)); apply wpC_norm; (case ha => (simp only [Act.put, List.setIfInBounds_toArray, List.set_cons_zero, List.set_cons_succ]; exact rfl))); ((first | (apply wpC_skip; (case hw => exact rfl)) | (apply wpC_det; (case hw => exact rfl); (case hs => (intro cs b h; cases h)); (case h1 => (intro w'; go_simp <;> exact rfl)))); apply wpC_norm; (case ha => (simp only [Act.put, List.setIfInBounds_toArray, List.set_cons_zero, List.set_cons_succ]; exact rfl))); ((first | (apply wpC_skip; (case hw => exact rfl)) | (apply wpC_callB _; ((case hw => exact rfl)); (case h1 => (intro w'; go_simp; exact ⟨rfl, rfl⟩)); (case hc => (intro w' hb hk0; obtain ⟨hT, hk⟩ := bv_next hb (by (repeat (with_reducible first | assumption | apply Trk.alloc | apply Trk.setCell | apply Trk.drewN | apply Trk.drew | exact Trk.nil _))); simp only [SameOn, World.size_alloc, World.size_setCell, World.size_drew, size_drewN', and_true] at hk; have hsz := Below.size hb; (try simp only [World.size_alloc, World.size_setCell, World.size_drew, size_drewN'] at hsz); refine ((ContainsFuncI2_any 43 (.pointer (some ⟨w.heap.size, 0, none⟩)) (.pointer (some ⟨w.heap.size + 1, 0, none⟩)) (fun k => flt .f32 (aE P k) (cn .f32 v)) M _ _ (OI.fs (show OI _ _ _ M from hk0.1)) (fun x w' => by kernel_rfl) (fun j hj w2 hb2 => (HR1.out ⟨some ⟨b1, o1, none⟩, z1, some ⟨b2, o2, none⟩, z2, some ⟨b3, o3, none⟩, z3, some ⟨b4, o4, none⟩, z4⟩ _ _ _ w2 (PlAt.later (PlAt.later HAT.out hb (by omega)) hb2 (by omega)) ((hb2.cell (p := ⟨w.heap.size + 1, 0, none⟩) (show w.heap.size + 1 < w'.heap.size by omega)).trans ((hb.cell (p := ⟨w.heap.size + 1, 0, none⟩) (show w.heap.size + 1 < wr.heap.size by omega)).trans HLV.out)) (HS.out.later (below_then hB (below_then hb hb2))) (HA2.out j hj)).mono fun e w3 h => RB.bv h)) ).mono ?_; intro e2 w3 h; (try simp only [*] at h); exact h)))); apply wpC_norm; (case ha => (simp only [Act.put, List.setIfInBounds_toArray, List.set_cons_zero, List.set_cons_succ]; exact rfl))); ((apply wpC_det; (case hw => exact rfl); (case hs => (intro cs b h; cases h)); (case h1 => (intro w'; go_simp <;> exact rfl))); apply wpC_norm; (case ha => (simp only [Act.put, List.setIfInBounds_toArray, List.set_cons_zero, List.set_cons_succ]; exact rfl))); refine wpC_nil ?_; intro w' hb hkk; obtain ⟨hT, hk⟩ := bv_next hb (by (repeat (with_reducible first | assumption | apply Trk.alloc | apply Trk.setCell | apply Trk.drewN | apply Trk.drew | exact Trk.nil _))); simp only [SameOn, World.size_alloc, World.size_setCell, World.size_drew, size_drewN', and_true] at hk; have hsz := Below.size hb; (try simp only [World.size_alloc, World.size_setCell, World.size_drew, size_drewN'] at hsz))
        go_wp2_with (first | (with_reducible refine at_list ?_; refine wpList_fop rfl rfl rfl rfl rfl ?_; intro r n hr0; have hr := hr0 _ _ (by first | with_reducible assumption | exact rfl) (by first | with_reducible assumption | exact rfl); clear hr0) | (with_reducible refine at_list ?_; refine wpList_neg rfl rfl rfl ?_; intro r hr0; have hr := hr0 _ (by first | with_reducible assumption | exact rfl); clear hr0) | (with_reducible refine at_list ?_; refine wpList_fop_g rfl rfl rfl rfl rfl ?_; intro r n hr0; have hr := hr0 _ _ (by first | with_reducible assumption | exact rfl) (by first | with_reducible assumption | exact rfl); clear hr0) | (with_reducible refine at_list ?_; refine wpList_wide_g rfl rfl Try.underlying26 Try.underlying54 rfl ?_; intro r n hr0; have hr := hr0 _ (by first | with_reducible assumption | exact rfl); clear hr0) | (with_reducible refine at_list ?_; refine wpList_wide rfl rfl rfl Try.underlying26 Try.underlying54 ?_; intro r n hr0; have hr := hr0 _ (by first | with_reducible assumption | exact rfl); clear hr0) | (go_at_call 36; refine (implValidPlate_any _ _ _ (by assumption)).mono ?_; rintro e w' ⟨rfl, hb⟩; obtain ⟨hT, hk⟩ := bv_next hb (by (repeat (with_reducible first | assumption | apply Trk.alloc | apply Trk.setCell | apply Trk.drewN | apply Trk.drew | exact Trk.nil _))); simp only [SameOn, World.size_alloc, World.size_setCell, World.size_drew, size_drewN', and_true] at hk; have hsz := Below.size hb; (try simp only [World.size_alloc, World.size_setCell, World.size_drew, size_drewN'] at hsz)) | (go_at_call 37; refine (IsFinite_any _ _).mono ?_; rintro e w' ⟨rfl, n, rfl⟩) | (go_at_call 38; refine (neighbours_any _ _ _ _ (by omega) (by omega) (by omega)).mono ?_; rintro e w' ⟨u, rfl, hb, hO⟩; obtain ⟨pu, cu, rfl⟩ := OI.shape hO; (try simp only [World.size_alloc, World.size_setCell, World.size_drew, World.drewN] at hO); obtain ⟨hT, hk⟩ := bv_next hb (by (repeat (with_reducible first | assumption | apply Trk.alloc | apply Trk.setCell | apply Trk.drewN | apply Trk.drew | exact Trk.nil _))); simp only [SameOn, World.size_alloc, World.size_setCell, World.size_drew, size_drewN', and_true] at hk; have hsz := Below.size hb; (try simp only [World.size_alloc, World.size_setCell, World.size_drew, size_drewN'] at hsz)))
        go_roundw
        case rel => exact ⟨k + 1, c, q, L, by omega, by go_num, rfl, by omega, HO.out.later hb, by show _ = _; rw [HEN.out, HL.out], by (repeat (first | (with_reducible exact Below.refl _ _) | (with_reducible assumption) | (with_reducible refine below_then ?_ (by assumption)) | (with_reducible refine Below.trans ?_ (by assumption)) | (with_reducible refine below_drewN ?_ _) | (with_reducible apply Below.drew) | (with_reducible refine below_alloc ?_ _) | refine Below.setCell ?_ (by first | (simp; done) | (simp; omega)) _)), by omega, (by unfold PlAt; refine ⟨?_, ?_, ?_, ?_, ?_, ?_⟩ <;> go_simp), by show _ = _; go_simp⟩
        case measure => simp [intOf]; omega
        all_goals first | kernel_rfl | rfl
      · have HEY := Lib.hid (HEY0.out (by rw [HRB.out, f1, f2]; rfl))
        clear HEY0 HEN0
        go_wp2_with (first | (with_reducible refine at_list ?_; refine wpList_fop rfl rfl rfl rfl rfl ?_; intro r n hr0; have hr := hr0 _ _ (by first | with_reducible assumption | exact rfl) (by first | with_reducible assumption | exact rfl); clear hr0) | (with_reducible refine at_list ?_; refine wpList_neg rfl rfl rfl ?_; intro r hr0; have hr := hr0 _ (by first | with_reducible assumption | exact rfl); clear hr0) | (with_reducible refine at_list ?_; refine wpList_fop_g rfl rfl rfl rfl rfl ?_; intro r n hr0; have hr := hr0 _ _ (by first | with_reducible assumption | exact rfl) (by first | with_reducible assumption | exact rfl); clear hr0) | (with_reducible refine at_list ?_; refine wpList_wide_g rfl rfl Try.underlying26 Try.underlying54 rfl ?_; intro r n hr0; have hr := hr0 _ (by first | with_reducible assumption | exact rfl); clear hr0) | (with_reducible refine at_list ?_; refine wpList_wide rfl rfl rfl Try.underlying26 Try.underlying54 ?_; intro r n hr0; have hr := hr0 _ (by first | with_reducible assumption | exact rfl); clear hr0) | (go_at_call 36; refine (implValidPlate_any _ _ _ (by assumption)).mono ?_; rintro e w' ⟨rfl, hb⟩; obtain ⟨hT, hk⟩ := bv_next hb (by (repeat (with_reducible first | assumption | apply Trk.alloc | apply Trk.setCell | apply Trk.drewN | apply Trk.drew | exact Trk.nil _))); simp only [SameOn, World.size_alloc, World.size_setCell, World.size_drew, size_drewN', and_true] at hk; have hsz := Below.size hb; (try simp only [World.size_alloc, World.size_setCell, World.size_drew, size_drewN'] at hsz)) | (go_at_call 37; refine (IsFinite_any _ _).mono ?_; rintro e w' ⟨rfl, n, rfl⟩) | (go_at_call 38; refine (neighbours_any _ _ _ _ (by omega) (by omega) (by omega)).mono ?_; rintro e w' ⟨u, rfl, hb, hO⟩; obtain ⟨pu, cu, rfl⟩ := OI.shape hO; (try simp only [World.size_alloc, World.size_setCell, World.size_drew, World.drewN] at hO); obtain ⟨hT, hk⟩ := bv_next hb (by (repeat (with_reducible first | assumption | apply Trk.alloc | apply Trk.setCell | apply Trk.drewN | apply Trk.drew | exact Trk.nil _))); simp only [SameOn, World.size_alloc, World.size_setCell, World.size_drew, size_drewN', and_true] at hk; have hsz := Below.size hb; (try simp only [World.size_alloc, World.size_setCell, World.size_drew, size_drewN'] at hsz)))
        (apply wp_region_plan; ((apply wpC_det; (case hw => exact rfl); (case hs => (intro cs b h; cases h)); (case h1 => (intro w'; go_simp <;> exact rfl))); apply wpC_norm; (case ha => (simp only [Act.put, List.setIfInBounds_toArray, List.set_cons_zero, List.set_cons_succ]; exact rfl))); ((apply wpC_val; (case hw => exact rfl); (case h1 => (intro w' hb hk0; obtain ⟨hT, hk⟩ := bv_next hb (by (repeat (with_reducible first | assumption | apply Trk.alloc | apply Trk.setCell | apply Trk.drewN | apply Trk.drew | exact Trk.nil _))); simp only [SameOn, World.size_alloc, World.size_setCell, World.size_drew, size_drewN', and_true] at hk; have hsz := Below.size hb; (try simp only [World.size_alloc, World.size_setCell, World.size_drew, size_drewN'] at hsz); go_simp <;> exact rfl))); apply wpC_norm; (case ha => (simp only [Act.put, List.setIfInBounds_toArray, List.set_cons_zero, List.set_cons_succ]; exact rfl))); ((apply wpC_det; (case hw => exact rfl); (case hs => (intro cs b h; cases h)); (case h1 => (intro w'; go_simp <;> exact rfl))); apply wpC_norm; (case ha => (simp only [Act.put, List.setIfInBounds_toArray, List.set_cons_zero, List.set_cons_succ]; exact rfl))); ((apply wpC_det; (case hw => exact rfl); (case hs => (intro cs b h; cases h)); (case h1 => (intro w'; go_simp <;> exact rfl))); apply wpC_norm; (case ha => (simp only [Act.put, List.setIfInBounds_toArray, List.set_cons_zero, List.set_cons_succ]; exact rfl))); ((apply wpC_val; (case hw => exact rfl); (case h1 => (intro w' hb hk0; obtain ⟨hT, hk⟩ := bv_next hb (by (repeat (with_reducible first | assumption | apply Trk.alloc | apply Trk.setCell | apply Trk.drewN | apply Trk.drew | exact Trk.nil _))); simp only [SameOn, World.size_alloc, World.size_setCell, World.size_drew, size_drewN', and_true] at hk; have hsz := Below.size hb; (try simp only [World.size_alloc, World.size_setCell, World.size_drew, size_drewN'] at hsz); go_simp <;> exact rfl))); apply wpC_norm; (case ha => (simp only [Act.put, List.setIfInBounds_toArray, List.set_cons_zero, List.set_cons_succ]; exact rfl))); ((apply wpC_val; (case hw => exact rfl); (case h1 => (intro w' hb hk0; obtain ⟨hT, hk⟩ := bv_next hb (by (repeat (with_reducible first | assumption | apply Trk.alloc | apply Trk.setCell | apply Trk.drewN | apply Trk.drew | exact Trk.nil _))); simp only [SameOn, World.size_alloc, World.size_setCell, World.size_drew, size_drewN', and_true] at hk; have hsz := Below.size hb; (try simp only [World.size_alloc, World.size_setCell, World.size_drew, size_drewN'] at hsz); go_simp <;> exact rfl))); apply wpC_norm; (case ha => (simp only [Act.put, List.setIfInBounds_toArray, List.set_cons_zero, List.set_cons_succ]; exact rfl))); ((apply wpC_det; (case hw => exact rfl); (case hs => (intro cs b h; cases h)); (case h1 => (intro w'; go_simp <;> exact rfl))); apply wpC_norm; (case ha => (simp only [Act.put, List.setIfInBounds_toArray, List.set_cons_zero, List.set_cons_succ]; exact rfl))); ((apply wpC_det; (case hw => exact rfl); (case hs => (intro cs b h; cases h)); (case h1 => (intro w'; go_simp <;> exact rfl))); apply wpC_norm; (case ha => (simp only [Act.put, List.setIfInBounds_toArray, List.set_cons_zero, List.set_cons_succ]; exact rfl))); ((first | (apply wpC_skip; (case hw => exact rfl)) | (apply wpC_val; (case hw => exact rfl); (case h1 => (intro w' hb hk0; obtain ⟨hT, hk⟩ := bv_next hb (by (repeat (with_reducible first | assumption | apply Trk.alloc | apply Trk.setCell | apply Trk.drewN | apply Trk.drew | exact Trk.nil _))); simp only [SameOn, World.size_alloc, World.size_setCell, World.size_drew, size_drewN', and_true] at hk; have hsz := Below.size hb; (try simp only [World.size_alloc, World.size_setCell, World.size_drew, size_drewN'] at hsz); go_simp <;> exact rfl)))); apply wpC_norm; (case ha => (simp only [Act.put, List.setIfInBounds_toArray, List.set_cons_zero, List.set_cons_succ]; exact rfl))); ((first | (apply wpC_skip; (case hw => exact rfl)) | (apply wpC_det; (case hw => exact rfl); (case hs => (intro cs b h; cases h)); (case h1 => (intro w'; go_simp <;> exact rfl)))); apply wpC_norm; (case ha => (simp only [Act.put, List.setIfInBounds_toArray, List.set_cons_zero, List.set_cons_succ]; exact rfl))); ((first | (apply wpC_skip; (case hw => exact rfl)) | (apply wpC_callI; (case hw => exact rfl); (case h1 => (intro w'; go_simp; exact ⟨rfl, rfl⟩)); (case hc => (intro w' hb hk0; obtain ⟨hT, hk⟩ := bv_next hb (by (repeat (with_reducible first | assumption | apply Trk.alloc | apply Trk.setCell | apply Trk.drewN | apply Trk.drew | exact Trk.nil _))); simp only [SameOn, World.size_alloc, World.size_setCell, World.size_drew, size_drewN', and_true] at hk; have hsz := Below.size hb; (try simp only [World.size_alloc, World.size_setCell, World.size_drew, size_drewN'] at hsz); exact ((HNk.out ⟨some ⟨b1, o1, none⟩, z1, some ⟨b2, o2, none⟩, z2, some ⟨b3, o3, none⟩, z3, some ⟨b4, o4, none⟩, z4⟩ _) ))); intro pu cu)); apply wpC_norm; (case ha => (simp only [Act.put, List.setIfInBounds_toArray, List.set_cons_zero, List.set_cons_succ]; exact rfl))); ((first | (apply wpC_skip; (case hw => exact rfl)) | (apply wpC_det; (case hw => exact rfl); (case hs => (intro cs b h; cases h)); (case h1 => (intro w'; go_simp <;> exact rfl)))); apply wpC_norm; (case ha => (simp only [Act.put, List.setIfInBounds_toArray, List.set_cons_zero, List.set_cons_succ]; exact rfl))); ((first | (apply wpC_skip; (case hw => exact rfl)) | (apply wpC_callB _; ((case hw => exact rfl)); (case h1 => (intro w'; go_simp; exact ⟨rfl, rfl⟩)); (case hc => (intro w' hb hk0; obtain ⟨hT, hk⟩ := bv_next hb (by (repeat (with_reducible first | assumption | apply Trk.alloc | apply Trk.setCell | apply Trk.drewN | apply Trk.drew | exact Trk.nil _))); simp only [SameOn, World.size_alloc, World.size_setCell, World.size_drew, size_drewN', and_true] at hk; have hsz := Below.size hb; (try simp only [World.size_alloc, World.size_setCell, World.size_drew, size_drewN'] at hsz); refine ((ContainsFuncI2_any 43 (.pointer (some ⟨w.heap.size, 0, none⟩)) (.pointer (some ⟨w.heap.size + 1, 0, none⟩)) (fun k => flt .f32 (aE P k) (cn .f32 v)) M _ _ (OI.fs (show OI _ _ _ M from hk0.1)) (fun x w' => by kernel_rfl) (fun j hj w2 hb2 => (HR1.out ⟨some ⟨b1, o1, none⟩, z1, some ⟨b2, o2, none⟩, z2, some ⟨b3, o3, none⟩, z3, some ⟨b4, o4, none⟩, z4⟩ _ _ _ w2 (PlAt.later (PlAt.later HAT.out hb (by omega)) hb2 (by omega)) ((hb2.cell (p := ⟨w.heap.size + 1, 0, none⟩) (show w.heap.size + 1 < w'.heap.size by omega)).trans ((hb.cell (p := ⟨w.heap.size + 1, 0, none⟩) (show w.heap.size + 1 < wr.heap.size by omega)).trans HLV.out)) (HS.out.later (below_then hB (below_then hb hb2))) (HA2.out j hj)).mono fun e w3 h => RB.bv h)) ).mono ?_; intro e2 w3 h; (try simp only [*] at h); exact h)))); apply wpC_norm; (case ha => (simp only [Act.put, List.setIfInBounds_toArray, List.set_cons_zero, List.set_cons_succ]; exact rfl))); ((apply wpC_det; (case hw => exact rfl); (case hs => (intro cs b h; cases h)); (case h1 => (intro w'; go_simp <;> exact rfl))); apply wpC_norm; (case ha => (simp only [Act.put, List.setIfInBounds_toArray, List.set_cons_zero, List.set_cons_succ]; exact rfl))); refine wpC_nil ?_; intro w' hb hkk; obtain ⟨hT, hk⟩ := bv_next hb (by (repeat (with_reducible first | assumption | apply Trk.alloc | apply Trk.setCell | apply Trk.drewN | apply Trk.drew | exact Trk.nil _))); simp only [SameOn, World.size_alloc, World.size_setCell, World.size_drew, size_drewN', and_true] at hk; have hsz := Below.size hb; (try simp only [World.size_alloc, World.size_setCell, World.size_drew, size_drewN'] at hsz))
        go_wp2_with (first | (with_reducible refine at_list ?_; refine wpList_fop rfl rfl rfl rfl rfl ?_; intro r n hr0; have hr := hr0 _ _ (by first | with_reducible assumption | exact rfl) (by first | with_reducible assumption | exact rfl); clear hr0) | (with_reducible refine at_list ?_; refine wpList_neg rfl rfl rfl ?_; intro r hr0; have hr := hr0 _ (by first | with_reducible assumption | exact rfl); clear hr0) | (with_reducible refine at_list ?_; refine wpList_fop_g rfl rfl rfl rfl rfl ?_; intro r n hr0; have hr := hr0 _ _ (by first | with_reducible assumption | exact rfl) (by first | with_reducible assumption | exact rfl); clear hr0) | (with_reducible refine at_list ?_; refine wpList_wide_g rfl rfl Try.underlying26 Try.underlying54 rfl ?_; intro r n hr0; have hr := hr0 _ (by first | with_reducible assumption | exact rfl); clear hr0) | (with_reducible refine at_list ?_; refine wpList_wide rfl rfl rfl Try.underlying26 Try.underlying54 ?_; intro r n hr0; have hr := hr0 _ (by first | with_reducible assumption | exact rfl); clear hr0) | (at_builtin; refine stop_here ?_) | (go_at_call 36; refine (implValidPlate_any _ _ _ (by assumption)).mono ?_; rintro e w' ⟨rfl, hb⟩; obtain ⟨hT, hk⟩ := bv_next hb (by (repeat (with_reducible first | assumption | apply Trk.alloc | apply Trk.setCell | apply Trk.drewN | apply Trk.drew | exact Trk.nil _))); simp only [SameOn, World.size_alloc, World.size_setCell, World.size_drew, size_drewN', and_true] at hk; have hsz := Below.size hb; (try simp only [World.size_alloc, World.size_setCell, World.size_drew, size_drewN'] at hsz)) | (go_at_call 37; refine (IsFinite_any _ _).mono ?_; rintro e w' ⟨rfl, n, rfl⟩) | (go_at_call 38; refine (neighbours_any _ _ _ _ (by omega) (by omega) (by omega)).mono ?_; rintro e w' ⟨u, rfl, hb, hO⟩; obtain ⟨pu, cu, rfl⟩ := OI.shape hO; (try simp only [World.size_alloc, World.size_setCell, World.size_drew, World.drewN] at hO); obtain ⟨hT, hk⟩ := bv_next hb (by (repeat (with_reducible first | assumption | apply Trk.alloc | apply Trk.setCell | apply Trk.drewN | apply Trk.drew | exact Trk.nil _))); simp only [SameOn, World.size_alloc, World.size_setCell, World.size_drew, size_drewN', and_true] at hk; have hsz := Below.size hb; (try simp only [World.size_alloc, World.size_setCell, World.size_drew, size_drewN'] at hsz)))
        unfold Stop
        apply wpList_appI (B := w.heap.size + 2) (xs := L) (v := .slice q L.length c)
        case hg => rfl
        case ho => rfl
        case hs => rfl
        case hx => rfl
        case hO => exact (HO.out.later hb).alloc _
        case hc => go_simp <;> exact rfl
        case hn => omega
        case hB => simp; omega
        intro q2 c2 w2 hO2 hB2
        have hw2 : w.heap.size + 2 ≤ w2.heap.size := by have := hB2.size; simp at this; omega
        have hB3 := Below.trans (B := w.heap.size) (a := w) (by (repeat (first | (with_reducible exact Below.refl _ _) | (with_reducible assumption) | (with_reducible refine below_then ?_ (by assumption)) | (with_reducible refine Below.trans ?_ (by assumption)) | (with_reducible refine below_drewN ?_ _) | (with_reducible apply Below.drew) | (with_reducible refine below_alloc ?_ _) | refine Below.setCell ?_ (by first | (simp; done) | (simp; omega)) _))) (hB2.mono (by omega))
        have hat2 := PlAt.later (P := P) (l := ⟨some ⟨b1, o1, none⟩, z1, some ⟨b2, o2, none⟩, z2, some ⟨b3, o3, none⟩, z3, some ⟨b4, o4, none⟩, z4⟩) (b := w.heap.size) (o := 0) (by unfold PlAt; refine ⟨?_, ?_, ?_, ?_, ?_, ?_⟩ <;> go_simp) hB2 (by omega)
        have hlv2 : w2.cell? ⟨w.heap.size + 1, 0, none⟩ = some (.float .f32 v) := (hB2.cell (p := ⟨w.heap.size + 1, 0, none⟩) (show w.heap.size + 1 < w.heap.size + 2 by omega)).trans (by go_simp)
        have HLV2 := Lib.hid hlv2
        have HB3 := Lib.hid hB3
        have HAT2 := Lib.hid hat2
        have HO2 := Lib.hid hO2
        clear hat2 hB3 hB2 hO2 hlv2
        go_wp2
        go_roundw
        case rel => exact ⟨k + 1, c2, q2, L ++ [(k : Int)], by omega, by go_num, by simp, by simp; omega, by show OI _ _ _ _; have := HO2.out; simpa using this, by show _ = _; rw [HEY.out, HL.out], HB3.out, hw2, HAT2.out, HLV2.out⟩
        case measure => simp [intOf]; omega
        all_goals first | kernel_rfl | rfl
    · have hlt2 : ¬ (k : Int) < P.W * P.H := by omega
      have he : k = P.a.length := by omega
      have HLE : Hid (rimV P v = L) := by show _ = _; rw [HE.out, ← he]; exact HL.out
      clear HL hn1
      go_wp2_with (first | (with_reducible refine at_list ?_; refine wpList_fop rfl rfl rfl rfl rfl ?_; intro r n hr0; have hr := hr0 _ _ (by first | with_reducible assumption | exact rfl) (by first | with_reducible assumption | exact rfl); clear hr0) | (with_reducible refine at_list ?_; refine wpList_neg rfl rfl rfl ?_; intro r hr0; have hr := hr0 _ (by first | with_reducible assumption | exact rfl); clear hr0) | (with_reducible refine at_list ?_; refine wpList_fop_g rfl rfl rfl rfl rfl ?_; intro r n hr0; have hr := hr0 _ _ (by first | with_reducible assumption | exact rfl) (by first | with_reducible assumption | exact rfl); clear hr0) | (with_reducible refine at_list ?_; refine wpList_wide_g rfl rfl Try.underlying26 Try.underlying54 rfl ?_; intro r n hr0; have hr := hr0 _ (by first | with_reducible assumption | exact rfl); clear hr0) | (with_reducible refine at_list ?_; refine wpList_wide rfl rfl rfl Try.underlying26 Try.underlying54 ?_; intro r n hr0; have hr := hr0 _ (by first | with_reducible assumption | exact rfl); clear hr0) | (go_at_call 36; refine (implValidPlate_any _ _ _ (by assumption)).mono ?_; rintro e w' ⟨rfl, hb⟩; obtain ⟨hT, hk⟩ := bv_next hb (by (repeat (with_reducible first | assumption | apply Trk.alloc | apply Trk.setCell | apply Trk.drewN | apply Trk.drew | exact Trk.nil _))); simp only [SameOn, World.size_alloc, World.size_setCell, World.size_drew, size_drewN', and_true] at hk; have hsz := Below.size hb; (try simp only [World.size_alloc, World.size_setCell, World.size_drew, size_drewN'] at hsz)) | (go_at_call 37; refine (IsFinite_any _ _).mono ?_; rintro e w' ⟨rfl, n, rfl⟩) | (go_at_call 38; refine (neighbours_any _ _ _ _ (by omega) (by omega) (by omega)).mono ?_; rintro e w' ⟨u, rfl, hb, hO⟩; obtain ⟨pu, cu, rfl⟩ := OI.shape hO; (try simp only [World.size_alloc, World.size_setCell, World.size_drew, World.drewN] at hO); obtain ⟨hT, hk⟩ := bv_next hb (by (repeat (with_reducible first | assumption | apply Trk.alloc | apply Trk.setCell | apply Trk.drewN | apply Trk.drew | exact Trk.nil _))); simp only [SameOn, World.size_alloc, World.size_setCell, World.size_drew, size_drewN', and_true] at hk; have hsz := Below.size hb; (try simp only [World.size_alloc, World.size_setCell, World.size_drew, size_drewN'] at hsz)))
      go_ret2
      exact ⟨_, by rw [HO1.out]; rfl, by (repeat (first | (with_reducible exact Below.refl _ _) | (with_reducible assumption) | (with_reducible refine below_then ?_ (by assumption)) | (with_reducible refine Below.trans ?_ (by assumption)) | (with_reducible refine below_drewN ?_ _) | (with_reducible apply Below.drew) | (with_reducible refine below_alloc ?_ _) | refine Below.setCell ?_ (by first | (simp; done) | (simp; omega)) _)), by rw [HLE.out]; exact HO.out.base (by omega)⟩
end Go.Proofs.Ytphamdlnnfionaa
set_option linter.unusedSimpArgs false
set_option linter.unusedVariables false
set_option linter.unusedSectionVars false
namespace Go.Proofs.Ytphamdlnnfionaa
open Go Go.RowKit
theorem mem_nbl {W H i k : Int} : k ∈ nbl W H i ↔ (k = nb W H i 0 (-1) ∨ k = nb W H i (-1) 0 ∨ k = nb W H i 1 0 ∨ k = nb W H i 0 1) ∧ 0 ≤ k := by
  unfold nbl nbs
  simp only [List.mem_filter, List.mem_cons, List.not_mem_nil, or_false, Bool.not_eq_true', decide_eq_false_iff_not]
  constructor
  · rintro ⟨h, h2⟩; exact ⟨h, by omega⟩
  · rintro ⟨h, h2⟩; exact ⟨h, by omega⟩
theorem mod_pred {W i : Int} (hW : 1 ≤ W) (h : i % W ≠ 0) (h0 : 0 ≤ i) : (i - 1) % W = i % W - 1 := by
  have a := Int.emod_nonneg i (b := W) (by omega)
  have b := Int.emod_lt_of_pos i (b := W) (by omega)
  have e := Int.mul_ediv_add_emod i W
  have e2 : i - 1 = (i % W - 1) + W * (i / W) := by omega
  rw [e2, Int.add_mul_emod_self_left, Int.emod_eq_of_lt (by omega) (by omega)]
section
variable {W H : Int} (hW : 1 ≤ W)
include hW
/-- Each cell but the first has a neighbour ahead of it, whose neighbour it is. -/
theorem cell_back {i : Int} (h0 : 0 < i) (h1 : i ≤ W * H - 1) : ∃ j, 0 ≤ j ∧ j < i ∧ i ∈ nbl W H j ∧ j ∈ nbl W H i := by
  by_cases hm : i % W = 0
  · have hiW : W ≤ i := by
      have e := Int.mul_ediv_add_emod i W
      have h2 : 1 ≤ i / W := by
        have h3 : 0 ≤ i / W := Int.ediv_nonneg (by omega) (by omega)
        by_cases h4 : i / W = 0
        · rw [h4, hm] at e; simp at e; omega
        · omega
      have h5 : W * 1 ≤ W * (i / W) := Int.mul_le_mul_of_nonneg_left h2 (by omega)
      omega
    refine ⟨i - W, by omega, by omega, mem_nbl.2 ⟨.inr (.inr (.inr ?_)), by omega⟩, mem_nbl.2 ⟨.inl ?_, by omega⟩⟩
    · rw [nb_down hW (by omega) (by omega), if_neg]
      · omega
      · intro h
        have : W * (H - 1) = W * H - W := by rw [Int.mul_sub, Int.mul_one]
        omega
    · rw [nb_up hW (by omega) h1, if_neg (by omega)]
  · have hp := mod_pred hW hm (by omega)
    have b := Int.emod_lt_of_pos i (b := W) (by omega)
    refine ⟨i - 1, by omega, by omega, mem_nbl.2 ⟨.inr (.inr (.inl ?_)), by omega⟩, mem_nbl.2 ⟨.inr (.inl ?_), by omega⟩⟩
    · rw [nb_right hW (by omega) (by omega), if_neg (by omega)]
      omega
    · rw [nb_left hW (by omega) h1, if_neg hm]
/-- What holds at the first cell and goes on to neighbours holds everywhere. -/
theorem grid_all {S : Int → Prop} (h0 : S 0) (hc : ∀ i, 0 ≤ i → i ≤ W * H - 1 → S i → ∀ k ∈ nbl W H i, S k) : ∀ (n : Nat) (i : Int), i = (n : Int) → i ≤ W * H - 1 → S i := by
  intro n
  induction n using Nat.strongRecOn with
  | ind n ih =>
    intro i hi h1
    by_cases hz : n = 0
    · subst hz; rw [hi]; exact h0
    · obtain ⟨j, j0, j1, j2, _⟩ := cell_back hW (H := H) (i := i) (by omega) h1
      exact hc j j0 (by omega) (ih j.toNat (by omega) j (by omega) (by omega)) i j2
/-- .. and what holds somewhere and goes on holds at the first cell. -/
theorem grid_zero {S : Int → Prop} (hc : ∀ i, 0 ≤ i → i ≤ W * H - 1 → S i → ∀ k ∈ nbl W H i, S k) : ∀ (n : Nat) (i : Int), i = (n : Int) → i ≤ W * H - 1 → S i → S 0 := by
  intro n
  induction n using Nat.strongRecOn with
  | ind n ih =>
    intro i hi h1 hS
    by_cases hz : n = 0
    · subst hz; rw [hi] at hS; exact hS
    · obtain ⟨j, j0, j1, _, j2⟩ := cell_back hW (H := H) (i := i) (by omega) h1
      exact ih j.toNat (by omega) j (by omega) (by omega) (hc i (by omega) h1 hS j j2)
theorem grid_any {S : Int → Prop} (hc : ∀ i, 0 ≤ i → i ≤ W * H - 1 → S i → ∀ k ∈ nbl W H i, S k) {i j : Int} (hi : 0 ≤ i ∧ i ≤ W * H - 1) (hj : 0 ≤ j ∧ j ≤ W * H - 1) (hS : S i) : S j :=
  grid_all hW (grid_zero hW hc i.toNat i (by omega) hi.2 hS) hc j.toNat j (by omega) hj.2
end
/-- Neighbours are neighbours of each other. -/
theorem nbl_symm {W H i k : Int} (hW : 1 ≤ W) (h0 : 0 ≤ i) (h1 : i ≤ W * H - 1) (h : k ∈ nbl W H i) : i ∈ nbl W H k := by
  have hr := nbl_cell h
  have hp : W * (H - 1) = W * H - W := by rw [Int.mul_sub, Int.mul_one]
  obtain ⟨h, hk⟩ := mem_nbl.1 h
  rw [nb_up hW h0 h1, nb_left hW h0 h1, nb_right hW h0 h1, nb_down hW h0 h1] at h
  refine mem_nbl.2 ⟨?_, h0⟩
  rw [nb_up hW hr.1 hr.2, nb_left hW hr.1 hr.2, nb_right hW hr.1 hr.2, nb_down hW hr.1 hr.2]
  have b := Int.emod_lt_of_pos i (b := W) (by omega)
  rcases h with h | h | h | h
  · refine .inr (.inr (.inr ?_))
    rw [if_neg (by split at h <;> omega)]
    split at h <;> omega
  · refine .inr (.inr (.inl ?_))
    by_cases hm : i % W = 0
    · rw [if_pos hm] at h; omega
    · rw [if_neg hm] at h
      have := mod_pred hW hm h0
      rw [← h] at this
      rw [if_neg (by omega)]; omega
  · refine .inr (.inl ?_)
    by_cases hm : i % W = W - 1
    · rw [if_pos hm] at h; omega
    · rw [if_neg hm] at h
      have a := Int.emod_nonneg i (b := W) (by omega)
      have e := Int.mul_ediv_add_emod i W
      have e2 : k = (i % W + 1) + W * (i / W) := by omega
      have e3 : k % W = i % W + 1 := by rw [e2, Int.add_mul_emod_self_left, Int.emod_eq_of_lt (by omega) (by omega)]
      rw [if_neg (by omega)]; omega
  · refine .inl ?_
    rw [if_neg (by split at h <;> omega)]
    split at h <;> omega
theorem getD_set {l : List Bool} {i j : Nat} (h : i < l.length) : (l.set i true).getD j false = (decide (i = j) || l.getD j false) := by
  rw [List.getD_eq_getElem?_getD, List.getD_eq_getElem?_getD, List.getElem?_set]
  by_cases e : i = j
  · subst e; simp [h]
  · simp [e]
/-- How many of the first cells are at the level at least. -/
def overC (P : Pl) (v : Nat) : Nat → Nat
  | 0 => 0
  | k + 1 => if hiB P v (k : Int) then overC P v k + 1 else overC P v k
section
variable {P : Pl} {v N : Nat}
theorem overC_le : ∀ n, overC P v n ≤ n
  | 0 => Nat.le_refl _
  | k + 1 => by have := overC_le k; simp only [overC]; split <;> omega
theorem overC_all : ∀ n, overC P v n = n → ∀ j : Nat, j < n → hiB P v (j : Int) = true
  | 0, _, j, hj => by omega
  | k + 1, h, j, hj => by
    have h1 := overC_le (P := P) (v := v) k
    simp only [overC] at h
    split at h
    · rename_i h2
      rcases (show j = k ∨ j < k by omega) with rfl | h3
      · exact h2
      · exact overC_all k (by omega) j h3
    · omega
theorem overC_some : ∀ n, 0 < overC P v n → ∃ j : Nat, j < n ∧ hiB P v (j : Int) = true
  | 0, h => by simp [overC] at h
  | k + 1, h => by
    simp only [overC] at h
    split at h
    · rename_i h2; exact ⟨k, by omega, h2⟩
    · obtain ⟨j, a, b⟩ := overC_some k h; exact ⟨j, by omega, b⟩
theorem overC_none : ∀ n, overC P v n = 0 → ∀ j : Nat, j < n → hiB P v (j : Int) = false
  | 0, _, j, hj => by omega
  | k + 1, h, j, hj => by
    simp only [overC] at h
    split at h
    · omega
    · rename_i h2
      rcases (show j = k ∨ j < k by omega) with rfl | h3
      · simpa using h2
      · exact overC_none k h j h3
theorem overC_miss : ∀ n, overC P v n < n → ∃ j : Nat, j < n ∧ hiB P v (j : Int) = false
  | 0, h => by omega
  | k + 1, h => by
    simp only [overC] at h
    split at h
    · obtain ⟨j, a, b⟩ := overC_miss k (by omega); exact ⟨j, by omega, b⟩
    · rename_i h2; exact ⟨k, by omega, by simpa using h2⟩
theorem cntT_app : ∀ (l m : List Bool), cntT (l ++ m) = cntT l + cntT m
  | [], m => by simp [cntT]
  | b :: l, m => by have := cntT_app l m; simp only [List.cons_append, cntT]; omega
theorem cntT_over {l : List Bool} (h : ∀ j : Nat, j < l.length → l.getD j false = true → hiB P v (j : Int) = true) : ∀ n, n ≤ l.length → cntT (l.take n) ≤ overC P v n
  | 0, _ => by simp [cntT, overC]
  | n + 1, hn => by
    have ih := cntT_over h n (by omega)
    rw [List.take_add_one, List.getElem?_eq_getElem (show n < l.length by omega), Option.toList_some, cntT_app]
    have h2 := h n (by omega)
    rw [List.getD_eq_getElem?_getD, List.getElem?_eq_getElem (show n < l.length by omega)] at h2
    simp only [overC, cntT]
    by_cases hb : l[n] = true
    · rw [if_pos hb, if_pos (h2 (by simpa using hb))]; omega
    · rw [if_neg hb]; split <;> omega
theorem cntT_full : ∀ l : List Bool, (∀ j : Nat, j < l.length → l.getD j false = true) → cntT l = l.length
  | [], _ => rfl
  | b :: l, h => by
    have h0 : b = true := h 0 (by simp)
    have ih := cntT_full l (fun j hj => h (j + 1) (by simpa using hj))
    subst h0
    simp only [cntT, List.length_cons, if_true]; omega
theorem cntT_none : ∀ n, cntT (List.replicate n false) = 0
  | 0 => rfl
  | n + 1 => by have := cntT_none n; simp [List.replicate_succ, cntT, this]
theorem rep_false (n j : Nat) : (List.replicate n false).getD j false = false := by rw [List.getD_eq_getElem?_getD, List.getElem?_replicate]; split <;> rfl
/-- What is kept while an island is walked: all that is seen is of the island or was seen ahead. -/
structure BI (P : Pl) (v N : Nat) (s : List Bool × List Int) : Prop where
  len : s.1.length = N
  hi : ∀ j : Nat, j < N → s.1.getD j false = true → hiB P v (j : Int) = true
  el : ∀ k ∈ s.2, 0 ≤ k ∧ k ≤ (N : Int) - 1
/-- One state goes on to another. -/
structure Ext (s s' : List Bool × List Int) : Prop where
  seen : ∀ j : Nat, s.1.getD j false = true → s'.1.getD j false = true
  pre : ∃ t, s'.2 = s.2 ++ t
  cnt : cntT s.1 ≤ cntT s'.1
theorem Ext.refl (s : List Bool × List Int) : Ext s s := ⟨fun _ h => h, ⟨[], by simp⟩, Nat.le_refl _⟩
theorem Ext.trans {a b c : List Bool × List Int} (h : Ext a b) (h2 : Ext b c) : Ext a c := by
  obtain ⟨t, e⟩ := h.pre
  obtain ⟨t2, e2⟩ := h2.pre
  exact ⟨fun j hj => h2.seen j (h.seen j hj), ⟨t ++ t2, by rw [e2, e, List.append_assoc]⟩, Nat.le_trans h.cnt h2.cnt⟩
theorem Ext.at {s s' : List Bool × List Int} (h : Ext s s') {j : Nat} (hj : j < s.2.length) : s'.2.getD j 0 = s.2.getD j 0 := by
  obtain ⟨t, e⟩ := h.pre
  rw [e, List.getD_eq_getElem?_getD, List.getElem?_append_left hj, ← List.getD_eq_getElem?_getD]
theorem Ext.len {s s' : List Bool × List Int} (h : Ext s s') : s.2.length ≤ s'.2.length := by
  obtain ⟨t, e⟩ := h.pre
  rw [e, List.length_append]; omega
theorem bi_nb {s : List Bool × List Int} (h : BI P v N s) {k : Int} (hk : k ≤ (N : Int) - 1) : BI P v N (islNb P v s k) ∧ Ext s (islNb P v s k) ∧ (0 ≤ k → hiB P v k = true → (islNb P v s k).1.getD k.toNat false = true) := by
  by_cases h0 : k < 0
  · rw [islNb_neg h0]
    exact ⟨h, Ext.refl _, fun h1 => by omega⟩
  · have hlt : k.toNat < s.1.length := by rw [h.len]; omega
    have e : ((k.toNat : Nat) : Int) = k := by omega
    cases h1 : s.1.getD k.toNat false with
    | true => rw [islNb_seen h1]; exact ⟨h, Ext.refl _, fun _ _ => h1⟩
    | false =>
      cases h2 : hiB P v k with
      | false => rw [islNb_low h2]; exact ⟨h, Ext.refl _, fun _ h3 => by cases h3⟩
      | true =>
        rw [islNb_yes (by omega) h1 h2]
        refine ⟨⟨by rw [List.length_set]; exact h.len, fun j hj hs => ?_, fun x hx => ?_⟩, ⟨fun j hj => ?_, ⟨[k], rfl⟩, ?_⟩, fun _ _ => ?_⟩
        · rw [getD_set hlt, Bool.or_eq_true, decide_eq_true_eq] at hs
          rcases hs with rfl | hs
          · rw [e]; exact h2
          · exact h.hi j hj hs
        · rcases List.mem_append.1 hx with hx | hx
          · exact h.el x hx
          · simp at hx; omega
        · show (s.1.set k.toNat true).getD j false = true
          rw [getD_set hlt, hj, Bool.or_true]
        · show cntT s.1 ≤ cntT (s.1.set k.toNat true)
          rw [cntT_set _ _ hlt h1]; omega
        · show (s.1.set k.toNat true).getD k.toNat false = true
          rw [getD_set hlt]; simp
theorem bi_fold : ∀ (ks : List Int) (s : List Bool × List Int), BI P v N s → (∀ k ∈ ks, k ≤ (N : Int) - 1) → BI P v N (islFold P v s ks) ∧ Ext s (islFold P v s ks) ∧ ∀ k ∈ ks, 0 ≤ k → hiB P v k = true → (islFold P v s ks).1.getD k.toNat false = true
  | [], s, h, _ => ⟨h, Ext.refl _, fun k hk => by simp at hk⟩
  | k :: ks, s, h, hk => by
    obtain ⟨a, b, c⟩ := bi_nb h (hk k (by simp))
    obtain ⟨a2, b2, c2⟩ := bi_fold ks (islNb P v s k) a (fun x hx => hk x (by simp [hx]))
    refine ⟨a2, b.trans b2, fun x hx h0 h1 => ?_⟩
    rcases List.mem_cons.1 hx with rfl | hx
    · exact b2.seen _ (c h0 h1)
    · exact c2 x hx h0 h1
theorem bi_it (hN : P.W * P.H = (N : Int)) (h1 : 1 ≤ N) {s : List Bool × List Int} (h : BI P v N s) : ∀ n, BI P v N (islIt P v s n) ∧ Ext s (islIt P v s n) ∧ ∀ j, j < n → j < (islIt P v s n).2.length → ∀ k ∈ nbl P.W P.H ((islIt P v s n).2.getD j 0), hiB P v k = true → (islIt P v s n).1.getD k.toNat false = true
  | 0 => ⟨h, Ext.refl _, fun j hj => by omega⟩
  | n + 1 => by
    obtain ⟨a, b, c⟩ := bi_it hN h1 h n
    by_cases hl : n < (islIt P v s n).2.length
    · rw [islIt_step hl]
      obtain ⟨a2, b2, c2⟩ := bi_fold (nbs P.W P.H ((islIt P v s n).2.getD n 0)) _ a (fun k hk => by have := nbs_le (show 1 ≤ P.W * P.H by omega) k hk; omega)
      refine ⟨a2, b.trans b2, fun j hj hj2 k hk hh => ?_⟩
      rw [b2.at (by omega)] at hk
      rcases (show j = n ∨ j < n by omega) with rfl | h3
      · exact c2 k (List.mem_filter.1 hk).1 (nbl_cell hk).1 hh
      · exact b2.seen _ (c j h3 (by omega) k hk hh)
    · have e : islIt P v s (n + 1) = islIt P v s n := by simp only [islIt]; rw [if_neg hl]
      rw [e]
      exact ⟨a, b, fun j hj hj2 => c j (by omega) hj2⟩
theorem bi_start {l : List Bool} {i : Nat} (hl : l.length = N) (hh : ∀ j : Nat, j < N → l.getD j false = true → hiB P v (j : Int) = true) (hi : i < N) (h : hiB P v (i : Int) = true) : BI P v N (l.set i true, [(i : Int)]) := by
  refine ⟨by rw [List.length_set]; exact hl, fun j hj hs => ?_, fun k hk => ?_⟩
  · have hs : (l.set i true).getD j false = true := hs
    rw [getD_set (by omega), Bool.or_eq_true, decide_eq_true_eq] at hs
    rcases hs with rfl | hs
    · exact h
    · exact hh j hj hs
  · simp at hk; omega
/-- What the walk over all cells keeps. -/
structure IO (P : Pl) (v N i : Nat) (o : List Bool × Nat × Nat) : Prop where
  len : o.1.length = N
  hi : ∀ j : Nat, j < N → o.1.getD j false = true → hiB P v (j : Int) = true
  cnt : o.2.1 ≤ cntT o.1
  big : o.2.2 ≤ cntT o.1
  zero : o.2.1 = 0 → o.1 = List.replicate N false ∧ ∀ j : Nat, j < i → hiB P v (j : Int) = false
  none : (∀ j : Nat, j < N → hiB P v (j : Int) = false) → o.2.1 = 0
theorem io_all (hN : P.W * P.H = (N : Int)) (hL : P.a.length = N) (h1 : 1 ≤ N) : ∀ i, i ≤ N → IO P v N i (islOut P v i)
  | 0, _ => ⟨by simp [islOut, hL], fun j hj h => (by rw [show (islOut P v 0).1 = List.replicate P.a.length false from rfl, rep_false] at h; cases h), Nat.zero_le _, Nat.zero_le _, fun _ => ⟨by rw [show (islOut P v 0).1 = List.replicate P.a.length false from rfl, hL], fun j hj => by omega⟩, fun _ => rfl⟩
  | i + 1, hi => by
    have h := io_all hN hL h1 i (by omega)
    by_cases hs : (islOut P v i).1.getD i false = true ∨ hiB P v (i : Int) = false
    · rw [islOut_skip hs]
      refine ⟨h.len, h.hi, h.cnt, h.big, fun h0 => ⟨(h.zero h0).1, fun j hj => ?_⟩, h.none⟩
      rcases (show j = i ∨ j < i by omega) with rfl | h3
      · rcases hs with hs | hs
        · rw [(h.zero h0).1, rep_false] at hs; cases hs
        · exact hs
      · exact (h.zero h0).2 j h3
    · have h2 : (islOut P v i).1.getD i false = false := by
        cases h3 : (islOut P v i).1.getD i false
        · rfl
        · exact absurd (.inl h3) hs
      have h4 : hiB P v (i : Int) = true := by
        cases h3 : hiB P v (i : Int)
        · exact absurd (.inr h3) hs
        · rfl
      rw [islOut_new h2 h4]
      obtain ⟨a, b, _⟩ := bi_it (v := v) hN h1 (bi_start h.len h.hi (by omega) h4) P.a.length
      have c := islInv_it (v := v) hN h1 (islInv_start h.len (by omega) h2) P.a.length
      have d : cntT ((islOut P v i).1.set i true) = cntT (islOut P v i).1 + 1 := cntT_set _ _ (by rw [h.len]; omega) h2
      have e : cntT ((islOut P v i).1.set i true) ≤ cntT (islEnd P v ((islOut P v i).1.set i true, [(i : Int)])).1 := b.cnt
      have f := c.2.1
      have h6 := h.cnt
      have h7 := h.big
      refine ⟨a.len, a.hi, ?_, ?_, fun h0 => ?_, fun hn => ?_⟩
      · show (islOut P v i).2.1 + 1 ≤ cntT (islEnd P v ((islOut P v i).1.set i true, [(i : Int)])).1
        omega
      · exact Nat.max_le.2 ⟨by show _ ≤ cntT (islEnd P v ((islOut P v i).1.set i true, [(i : Int)])).1; omega, f⟩
      · have h0 : (islOut P v i).2.1 + 1 = 0 := h0
        omega
      · rw [hn i (by omega)] at h4; cases h4
theorem io_over {o : List Bool × Nat × Nat} {i : Nat} (h : IO P v N i o) : cntT o.1 ≤ overC P v N := by
  have := cntT_over (P := P) (v := v) (l := o.1) (fun j hj => h.hi j (by rw [← h.len]; exact hj)) o.1.length (Nat.le_refl _)
  rw [List.take_length, h.len] at this
  exact this
/-- One island alone: what is seen is of it. -/
structure MI (N : Nat) (s : List Bool × List Int) : Prop where
  len : s.1.length = N
  eq : s.2.length = cntT s.1
  mem : ∀ j : Nat, j < N → s.1.getD j false = true → (j : Int) ∈ s.2
theorem mi_nb {s : List Bool × List Int} (h : MI N s) {k : Int} (hk : k ≤ (N : Int) - 1) : MI N (islNb P v s k) := by
  by_cases h0 : k < 0
  · rw [islNb_neg h0]; exact h
  · have hlt : k.toNat < s.1.length := by rw [h.len]; omega
    have e : ((k.toNat : Nat) : Int) = k := by omega
    cases h1 : s.1.getD k.toNat false with
    | true => rw [islNb_seen h1]; exact h
    | false =>
      cases h2 : hiB P v k with
      | false => rw [islNb_low h2]; exact h
      | true =>
        rw [islNb_yes (by omega) h1 h2]
        refine ⟨by rw [List.length_set]; exact h.len, ?_, fun j hj hs => ?_⟩
        · show (s.2 ++ [k]).length = cntT (s.1.set k.toNat true)
          rw [cntT_set _ _ hlt h1, List.length_append, h.eq]; rfl
        · have hs : (s.1.set k.toNat true).getD j false = true := hs
          rw [getD_set hlt, Bool.or_eq_true, decide_eq_true_eq] at hs
          rcases hs with rfl | hs
          · exact List.mem_append.2 (.inr (by rw [e]; simp))
          · exact List.mem_append.2 (.inl (h.mem j hj hs))
theorem mi_fold : ∀ (ks : List Int) (s : List Bool × List Int), MI N s → (∀ k ∈ ks, k ≤ (N : Int) - 1) → MI N (islFold P v s ks)
  | [], s, h, _ => h
  | k :: ks, s, h, hk => mi_fold ks (islNb P v s k) (mi_nb h (hk k (by simp))) (fun x hx => hk x (by simp [hx]))
theorem mi_it (hN : P.W * P.H = (N : Int)) (h1 : 1 ≤ N) {s : List Bool × List Int} (h : MI N s) : ∀ n, MI N (islIt P v s n)
  | 0 => h
  | n + 1 => by
    have ih := mi_it hN h1 h n
    simp only [islIt]
    split
    · exact mi_fold _ _ ih (fun k hk => by have := nbs_le (show 1 ≤ P.W * P.H by omega) k hk; omega)
    · exact ih
/-- Where all cells are at the level, there is one island. -/
theorem isl_all (hW : 1 ≤ P.W) (hN : P.W * P.H = (N : Int)) (hL : P.a.length = N) (h1 : 1 ≤ N) (hall : ∀ j : Nat, j < N → hiB P v (j : Int) = true) : (islOut P v N).2.1 = 1 ∧ (islOut P v N).2.2 = N := by
  have hs0 : (islOut P v 0).1 = List.replicate N false := by rw [← hL]; rfl
  have hnew : islOut P v 1 = ((islEnd P v ((islOut P v 0).1.set 0 true, [((0 : Nat) : Int)])).1, (islOut P v 0).2.1 + 1, max (islOut P v 0).2.2 (islEnd P v ((islOut P v 0).1.set 0 true, [((0 : Nat) : Int)])).2.length) := islOut_new (by rw [hs0]; exact rep_false N 0) (hall 0 (by omega))
  rw [hs0] at hnew
  have hst : BI P v N ((List.replicate N false).set 0 true, [((0 : Nat) : Int)]) := bi_start (by simp) (fun j hj h => by rw [rep_false] at h; cases h) (by omega) (hall 0 (by omega))
  have hmi : MI N ((List.replicate N false).set 0 true, [((0 : Nat) : Int)]) := by
    refine ⟨by simp, ?_, fun j hj hs => ?_⟩
    · show 1 = cntT ((List.replicate N false).set 0 true)
      rw [cntT_set _ _ (by simp; omega) (rep_false N 0), cntT_none]
    · have hs : ((List.replicate N false).set 0 true).getD j false = true := hs
      rw [getD_set (by simp; omega), rep_false, Bool.or_false, decide_eq_true_eq] at hs
      subst hs; simp
  obtain ⟨a, b, c⟩ := bi_it (v := v) hN h1 hst P.a.length
  have m := mi_it (P := P) (v := v) hN h1 hmi P.a.length
  have inv := islInv_it (v := v) hN h1 (islInv_start (l := List.replicate N false) (by simp) (by omega) (rep_false N 0)) P.a.length
  have hlen := islInv_len inv
  have hs : ∀ i : Int, 0 ≤ i → i ≤ P.W * P.H - 1 → (islIt P v ((List.replicate N false).set 0 true, [((0 : Nat) : Int)]) P.a.length).1.getD i.toNat false = true := by
    intro i h0 h2
    refine grid_all hW (H := P.H) (S := fun i => (islIt P v ((List.replicate N false).set 0 true, [((0 : Nat) : Int)]) P.a.length).1.getD i.toNat false = true) ?_ ?_ i.toNat i (by omega) h2
    · refine b.seen 0 ?_
      show ((List.replicate N false).set 0 true).getD 0 false = true
      rw [getD_set (by simp; omega)]; simp
    · intro i hi0 hi1 hsi k hk
      have hm := m.mem i.toNat (by omega) hsi
      obtain ⟨j, hj, hje⟩ := List.mem_iff_getElem.1 hm
      have hjd : (islIt P v ((List.replicate N false).set 0 true, [((0 : Nat) : Int)]) P.a.length).2.getD j 0 = i := by
        rw [List.getD_eq_getElem?_getD, List.getElem?_eq_getElem hj, Option.getD_some, hje]; omega
      have hr := nbl_cell hk
      refine c j (by omega) hj k (by rw [hjd]; exact hk) ?_
      have := hall k.toNat (by omega)
      rwa [show ((k.toNat : Nat) : Int) = k by omega] at this
  have hfull : cntT (islIt P v ((List.replicate N false).set 0 true, [((0 : Nat) : Int)]) P.a.length).1 = N := by
    rw [cntT_full _ (fun j hj => ?_), a.len]
    have := hs (j : Int) (by omega) (by rw [a.len] at hj; omega)
    simpa using this
  have one : islOut P v 1 = ((islEnd P v ((List.replicate N false).set 0 true, [((0 : Nat) : Int)])).1, 1, N) := by
    rw [hnew]
    have e1 : (islOut P v 0).2.1 = 0 := rfl
    have e2 : (islOut P v 0).2.2 = 0 := rfl
    have e3 : (islEnd P v ((List.replicate N false).set 0 true, [((0 : Nat) : Int)])).2.length = N := by
      show (islIt P v _ P.a.length).2.length = N
      rw [m.eq, hfull]
    rw [e1, e2, e3, Nat.zero_max]
  have rest : ∀ d, d + 1 ≤ N → islOut P v (d + 1) = islOut P v 1 := by
    intro d
    induction d with
    | zero => intro _; rfl
    | succ d ih =>
      intro hd
      have e := ih (by omega)
      rw [islOut_skip (i := d + 1) (.inl ?_), e]
      rw [e, one]
      show (islIt P v ((List.replicate N false).set 0 true, [((0 : Nat) : Int)]) P.a.length).1.getD (d + 1) false = true
      exact hs ((d + 1 : Nat) : Int) (by omega) (by omega)
  obtain ⟨d, hd⟩ : ∃ d, N = d + 1 := ⟨N - 1, by omega⟩
  have := rest d (by omega)
  rw [← hd] at this
  rw [this, one]
  exact ⟨rfl, rfl⟩
theorem islOk_eq (h : islOk P v = true) : islC P v = ((islOut P v P.a.length).2.1 : Int) ∧ islM P v = ((islOut P v P.a.length).2.2 : Int) := by
  unfold islC islM
  rw [h]
  exact ⟨rfl, rfl⟩
theorem Pl.dims (h : P.ok = true) : 1 ≤ P.W ∧ P.W * P.H = (P.a.length : Int) ∧ 1 ≤ P.a.length ∧ P.a.length ≤ 144 := by
  obtain ⟨a, b, c, d⟩ := Pl.ok_len h
  obtain ⟨e, f⟩ := Pl.ok_n h
  exact ⟨a.1, by omega, by omega, by omega⟩
/-- Islands: no more than cells over the level, none exactly where there is no such cell. -/
theorem isl_facts (hp : P.ok = true) (h : islOk P v = true) : (0 ≤ islC P v ∧ islC P v ≤ (overC P v P.a.length : Int)) ∧ (0 ≤ islM P v ∧ islM P v ≤ (overC P v P.a.length : Int)) ∧ (islC P v = 0 ↔ overC P v P.a.length = 0) := by
  obtain ⟨hW, hN, h1, _⟩ := Pl.dims hp
  obtain ⟨e1, e2⟩ := islOk_eq h
  have io := io_all (v := v) hN rfl h1 P.a.length (Nat.le_refl _)
  have ov := io_over io
  have c := io.cnt
  have b := io.big
  refine ⟨⟨by omega, by omega⟩, ⟨by omega, by omega⟩, fun hz => ?_, fun hz => ?_⟩
  · have hz' := (io.zero (by omega)).2
    by_cases hp : 0 < overC P v P.a.length
    · obtain ⟨j, hj, hh⟩ := overC_some _ hp
      rw [hz' j hj] at hh; cases hh
    · omega
  · omega
theorem isl_one (hp : P.ok = true) (h : islOk P v = true) (hall : ∀ j : Nat, j < P.a.length → hiB P v (j : Int) = true) : islC P v = 1 ∧ islM P v = (P.a.length : Int) := by
  obtain ⟨hW, hN, h1, _⟩ := Pl.dims hp
  obtain ⟨e1, e2⟩ := islOk_eq h
  obtain ⟨a, b⟩ := isl_all hW hN rfl h1 hall
  rw [e1, e2, a, b]
  exact ⟨rfl, rfl⟩
theorem rimL_in : ∀ (k : Nat) (x : Int), x ∈ rimL P v k → 0 ≤ x ∧ x < (k : Int) ∧ rimB P v x = true
  | 0, x, h => by simp [rimL] at h
  | k + 1, x, h => by
    simp only [rimL] at h
    split at h
    · rename_i hb
      rcases List.mem_append.1 h with h | h
      · have := rimL_in k x h; exact ⟨this.1, by omega, this.2.2⟩
      · have hx : x = (k : Int) := by simpa using h
        subst hx
        exact ⟨by omega, by omega, hb⟩
    · have := rimL_in k x h; exact ⟨this.1, by omega, this.2.2⟩
theorem rimL_up : ∀ (k j : Nat), j + 1 < (rimL P v k).length → (rimL P v k).getD j 0 < (rimL P v k).getD (j + 1) 0
  | 0, j, h => by simp [rimL] at h
  | k + 1, j, h => by
    simp only [rimL] at h ⊢
    split at h
    · rename_i hb
      rw [if_pos hb]
      rw [List.length_append] at h
      have hl : j < (rimL P v k).length := by simpa using h
      rw [List.getD_eq_getElem?_getD, List.getD_eq_getElem?_getD, List.getElem?_append_left hl]
      by_cases h2 : j + 1 < (rimL P v k).length
      · rw [List.getElem?_append_left h2]
        have := rimL_up k j h2
        rwa [List.getD_eq_getElem?_getD, List.getD_eq_getElem?_getD] at this
      · rw [List.getElem?_append_right (by omega), List.getElem?_eq_getElem hl, show j + 1 - (rimL P v k).length = 0 by omega]
        have := rimL_in k _ (List.getElem_mem hl)
        simp only [List.getElem?_cons_zero, Option.getD_some]
        omega
    · rename_i hb
      rw [if_neg hb]
      exact rimL_up k j h
theorem rimL_mem : ∀ (k : Nat) (j : Nat), j < k → rimB P v (j : Int) = true → (j : Int) ∈ rimL P v k
  | 0, j, h, _ => by omega
  | k + 1, j, h, hb => by
    simp only [rimL]
    rcases (show j = k ∨ j < k by omega) with rfl | h3
    · rw [if_pos hb]; simp
    · have := rimL_mem k j h3 hb
      split
      · exact List.mem_append.2 (.inl this)
      · exact this
/-- At the level or below it. -/
theorem hi_or_lo (hp : P.ok = true) (hv : fin .f32 (cn .f32 v) = true) {i : Int} (hi : P.cell i = true) : flt .f32 (aE P i) (cn .f32 v) = !hiB P v i := by
  have a := aE_fin hp hi
  have b := fin_isF hv
  unfold hiB
  rw [flt_val a b, fge_val a b]
  by_cases h : val (cn .f32 v) ≤ val (aE P i)
  · rw [decide_eq_true h, decide_eq_false (by omega)]; rfl
  · rw [decide_eq_false h, decide_eq_true (by omega)]; rfl
theorem cell_nat {j : Nat} (hp : P.ok = true) (hj : j < P.a.length) : P.cell (j : Int) = true := by
  obtain ⟨_, hN, _, _⟩ := Pl.dims hp
  unfold Pl.cell
  rw [inB_true]
  omega
/-- A rim where some cells are over the level and others are not. -/
theorem rim_some (hp : P.ok = true) (hv : fin .f32 (cn .f32 v) = true) (h0 : 0 < overC P v P.a.length) (h1 : overC P v P.a.length < P.a.length) : rimL P v P.a.length ≠ [] := by
  obtain ⟨hW, hN, hl, _⟩ := Pl.dims hp
  intro he
  have hno : ∀ j : Nat, j < P.a.length → rimB P v (j : Int) = false := fun j hj => by
    cases hb : rimB P v (j : Int) with
    | false => rfl
    | true => have := rimL_mem _ j hj hb; rw [he] at this; simp at this
  obtain ⟨a, ha, hah⟩ := overC_some _ h0
  obtain ⟨b, hb, hbl⟩ := overC_miss _ h1
  have := grid_any hW (H := P.H) (S := fun i => hiB P v i = true) ?_ (i := (a : Int)) (j := (b : Int)) (by omega) (by omega) hah
  · rw [this] at hbl; cases hbl
  · intro i hi0 hi1 hs k hk
    have hs : hiB P v i = true := hs
    show hiB P v k = true
    have hx := hno i.toNat (by omega)
    rw [show ((i.toNat : Nat) : Int) = i by omega] at hx
    unfold rimB at hx
    have hs' : fge .f32 (aE P i) (cn .f32 v) = true := hs
    rw [hs', Bool.true_and, List.any_eq_false] at hx
    have := hx k hk
    rw [hi_or_lo hp hv (nbl_cells k hk)] at this
    simpa using this
theorem rim_none (hp : P.ok = true) (hv : fin .f32 (cn .f32 v) = true) (h1 : overC P v P.a.length = P.a.length) : rimL P v P.a.length = [] := by
  obtain ⟨hW, hN, hl, _⟩ := Pl.dims hp
  have hall := overC_all _ h1
  apply List.eq_nil_iff_forall_not_mem.2
  intro x hx
  obtain ⟨x0, x1, hb⟩ := rimL_in _ x hx
  unfold rimB at hb
  rw [Bool.and_eq_true, List.any_eq_true] at hb
  obtain ⟨_, k, hk, hlt⟩ := hb
  rw [hi_or_lo hp hv (nbl_cells k hk)] at hlt
  have hr := nbl_cell hk
  have := hall k.toNat (by omega)
  rw [show ((k.toNat : Nat) : Int) = k by omega] at this
  rw [this] at hlt; cases hlt
theorem rim_hi (hp : P.ok = true) (hv : fin .f32 (cn .f32 v) = true) {x : Int} (hx : x ∈ rimL P v P.a.length) : (0 ≤ x ∧ x < (P.a.length : Int)) ∧ flt .f32 (aE P x) (cn .f32 v) = false := by
  obtain ⟨hW, hN, hl, _⟩ := Pl.dims hp
  obtain ⟨x0, x1, hb⟩ := rimL_in _ x hx
  refine ⟨⟨x0, x1⟩, ?_⟩
  have hc : P.cell x = true := by unfold Pl.cell; rw [inB_true]; omega
  rw [hi_or_lo hp hv hc]
  unfold rimB at hb
  rw [Bool.and_eq_true] at hb
  have : hiB P v x = true := hb.1
  rw [this]; rfl
/-- The next cell of a path is a cooler neighbour. -/
theorem best_nb : ∀ (ks : List Int) (b i : Int), (b = i ∨ b ∈ nbl P.W P.H i) → (∀ k ∈ ks, k ∈ nbl P.W P.H i) → (ks.foldl (fun b k => if flt .f32 (aE P k) (aE P b) = true then k else b) b = i ∨ ks.foldl (fun b k => if flt .f32 (aE P k) (aE P b) = true then k else b) b ∈ nbl P.W P.H i)
  | [], b, i, h, _ => h
  | k :: ks, b, i, h, hk => by
    rw [List.foldl_cons]
    refine best_nb ks _ i ?_ (fun x hx => hk x (by simp [hx]))
    split
    · exact .inr (hk k (by simp))
    · exact h
theorem path_cool {i : Int} {L : List Int} (hp : P.ok = true) (hi : P.cell i = true) (h : Path P i L) : (∀ k : Nat, k < L.length → P.cell (L.getD k 0) = true) ∧ ∀ k : Nat, k + 1 < L.length → L.getD (k + 1) 0 ∈ nbl P.W P.H (L.getD k 0) ∧ fge .f32 (aE P (L.getD (k + 1) 0)) (aE P (L.getD k 0)) = false := by
  induction h with
  | @stop i hb =>
    refine ⟨fun k hk => ?_, fun k hk => by simp at hk⟩
    have : k = 0 := by simpa using hk
    subst this; exact hi
  | @step i R hb hR ih =>
    obtain ⟨hc, hl⟩ := best_less hp hi
    obtain ⟨a, b⟩ := ih hc
    obtain ⟨R', hR'⟩ := hR.head
    refine ⟨fun k hk => ?_, fun k hk => ?_⟩
    · match k, hk with
      | 0, _ => exact hi
      | k + 1, hk => exact a k (by simpa using hk)
    · match k, hk with
      | 0, _ =>
        have e : (i :: R).getD 1 0 = best P i := by rw [hR']; rfl
        have e0 : (i :: R).getD 0 0 = i := rfl
        rw [e, e0]
        refine ⟨(best_nb (P := P) (nbl P.W P.H i) i i (.inl rfl) (fun k hk => hk)).resolve_left hb, ?_⟩
        have hv := hl.resolve_left hb
        rw [fge_val (aE_fin hp hc) (aE_fin hp hi)]
        exact decide_eq_false (by omega)
      | k + 1, hk => exact b k (by simpa using hk)
end
end Go.Proofs.Ytphamdlnnfionaa
set_option linter.unusedSimpArgs false
set_option linter.unusedVariables false
set_option linter.unusedSectionVars false
namespace Go.Proofs.Ytphamdlnnfionaa
open Go Go.RowKit
open Go.ChangeShapes Go.WideShapes Go.ChangeAt Go.RowKit Go.Joins
/-- Two numbers (of these classes) and a bool. -/
def BFFB (w : World) (c d : Nat) (b : Bool) (e : Ending) (w' : World) : Prop := ∃ r s, e = .returned (.tuple #[.float .f32 r, .float .f32 s, .bool b]) ∧ cn .f32 r = c ∧ cn .f32 s = d ∧ Below w.heap.size w w'
def lowA (P : Pl) : Nat → Nat
  | 0 => cn .f32 (P.a.getD 0 0)
  | k + 1 => if flt .f32 (cn .f32 (P.a.getD k 0)) (lowA P k) then cn .f32 (P.a.getD k 0) else lowA P k
def highA (P : Pl) : Nat → Nat
  | 0 => cn .f32 (P.a.getD 0 0)
  | k + 1 => if fgt .f32 (cn .f32 (P.a.getD k 0)) (highA P k) then cn .f32 (P.a.getD k 0) else highA P k
theorem lowA_step (P : Pl) (k : Nat) : lowA P (k + 1) = if flt .f32 (cn .f32 (P.a.getD k 0)) (lowA P k) then cn .f32 (P.a.getD k 0) else lowA P k := rfl
theorem highA_step (P : Pl) (k : Nat) : highA P (k + 1) = if fgt .f32 (cn .f32 (P.a.getD k 0)) (highA P k) then cn .f32 (P.a.getD k 0) else highA P k := rfl
theorem lowA_one (P : Pl) : lowA P 1 = cn .f32 (P.a.getD 0 0) := by rw [lowA_step]; split <;> rfl
theorem highA_one (P : Pl) : highA P 1 = cn .f32 (P.a.getD 0 0) := by rw [highA_step]; split <;> rfl
def lowV (P : Pl) : Nat := if P.ok then lowA P P.a.length else cn .f32 0
def highV (P : Pl) : Nat := if P.ok then highA P P.a.length else cn .f32 0
theorem lowV_ok {P : Pl} (h : P.ok = true) : lowV P = lowA P P.a.length := by rw [lowV, h]; rfl
theorem highV_ok {P : Pl} (h : P.ok = true) : highV P = highA P P.a.length := by rw [highV, h]; rfl
set_option maxHeartbeats 2000000 in
theorem implRangeOfPlate_any (P : Pl) (l : Lay) (w : World) (hs : P.fs w l) : Calls Try.prog 23 #[.agg #[.int .i64 P.W, .int .i64 P.H, .slice l.p1 P.a.length l.c1, .slice l.p2 P.b.length l.c2, .slice l.p3 P.c.length l.c3, .slice l.p4 P.d.length l.c4]] w (BFFB w (lowV P) (highV P) P.ok) := by
  have HS := Lib.hid hs
  clear hs
  have HV := Lib.hid (fun w h => implValidPlate_any P l w h)
  rcases h0 : P.ok
  · rw [h0] at HV
    go_enter Try.func23, Try.ntmps23
    go_wp2_with (first | (with_reducible refine at_list ?_; refine wpList_fop rfl rfl rfl rfl rfl ?_; intro r n hr0; have hr := hr0 _ _ (by first | with_reducible assumption | exact rfl) (by first | with_reducible assumption | exact rfl); clear hr0) | (with_reducible refine at_list ?_; refine wpList_neg rfl rfl rfl ?_; intro r hr0; have hr := hr0 _ (by first | with_reducible assumption | exact rfl); clear hr0) | (with_reducible refine at_list ?_; refine wpList_fop_g rfl rfl rfl rfl rfl ?_; intro r n hr0; have hr := hr0 _ _ (by first | with_reducible assumption | exact rfl) (by first | with_reducible assumption | exact rfl); clear hr0) | (with_reducible refine at_list ?_; refine wpList_wide_g rfl rfl Try.underlying26 Try.underlying54 rfl ?_; intro r n hr0; have hr := hr0 _ (by first | with_reducible assumption | exact rfl); clear hr0) | (with_reducible refine at_list ?_; refine wpList_wide rfl rfl rfl Try.underlying26 Try.underlying54 ?_; intro r n hr0; have hr := hr0 _ (by first | with_reducible assumption | exact rfl); clear hr0) | (go_at_call 36; refine ((HV.out _ (HS.out.later (by (repeat (first | (with_reducible exact Below.refl _ _) | (with_reducible assumption) | (with_reducible refine below_then ?_ (by assumption)) | (with_reducible refine Below.trans ?_ (by assumption)) | (with_reducible refine below_drewN ?_ _) | (with_reducible apply Below.drew) | (with_reducible refine below_alloc ?_ _) | refine Below.setCell ?_ (by first | (simp; done) | (simp; omega)) _))))) ).mono ?_; rintro e w' ⟨rfl, hb⟩; obtain ⟨hT, hk⟩ := bv_next hb (by (repeat (with_reducible first | assumption | apply Trk.alloc | apply Trk.setCell | apply Trk.drewN | apply Trk.drew | exact Trk.nil _))); simp only [SameOn, World.size_alloc, World.size_setCell, World.size_drew, size_drewN', and_true] at hk; have hsz := Below.size hb; (try simp only [World.size_alloc, World.size_setCell, World.size_drew, size_drewN'] at hsz)))
    all_goals (try ((first | (refine wp_some_lit (by kernel_rfl) (by kernel_rfl) ?_; (refine wpSome_one ?_; go_big_quiet_step (fail); refine wpQuiet_nil ?_); (refine wpSome_one ?_; go_big_quiet_step (fail); refine wpQuiet_nil ?_); (refine wpSome_one ?_; go_big_quiet_step (fail); refine wpQuiet_nil ?_); (refine wpSome_one ?_; go_big_quiet_step (fail); refine wpQuiet_nil ?_); (refine wpSome_one ?_; go_big_quiet_step (fail); refine wpQuiet_nil ?_); (refine wpSome_one ?_; go_big_quiet_step (fail); refine wpQuiet_nil ?_); (refine wpSome_one ?_; go_big_quiet_step (fail); refine wpQuiet_nil ?_); (refine wpSome_one ?_; go_big_quiet_step (fail); refine wpQuiet_nil ?_); (refine wpSome_one ?_; go_big_quiet_step (fail); refine wpQuiet_nil ?_); (refine wpSome_one ?_; go_big_quiet_step (fail); refine wpQuiet_nil ?_); refine wpSome_nil ?_; intro w' hw'; obtain ⟨nq, rfl⟩ := hw')); go_wp2_with (first | (with_reducible refine at_list ?_; refine wpList_fop rfl rfl rfl rfl rfl ?_; intro r n hr0; have hr := hr0 _ _ (by first | with_reducible assumption | exact rfl) (by first | with_reducible assumption | exact rfl); clear hr0) | (with_reducible refine at_list ?_; refine wpList_neg rfl rfl rfl ?_; intro r hr0; have hr := hr0 _ (by first | with_reducible assumption | exact rfl); clear hr0) | (with_reducible refine at_list ?_; refine wpList_fop_g rfl rfl rfl rfl rfl ?_; intro r n hr0; have hr := hr0 _ _ (by first | with_reducible assumption | exact rfl) (by first | with_reducible assumption | exact rfl); clear hr0) | (with_reducible refine at_list ?_; refine wpList_wide_g rfl rfl Try.underlying26 Try.underlying54 rfl ?_; intro r n hr0; have hr := hr0 _ (by first | with_reducible assumption | exact rfl); clear hr0) | (with_reducible refine at_list ?_; refine wpList_wide rfl rfl rfl Try.underlying26 Try.underlying54 ?_; intro r n hr0; have hr := hr0 _ (by first | with_reducible assumption | exact rfl); clear hr0) | (go_at_call 36; refine ((HV.out _ (HS.out.later (by (repeat (first | (with_reducible exact Below.refl _ _) | (with_reducible assumption) | (with_reducible refine below_then ?_ (by assumption)) | (with_reducible refine Below.trans ?_ (by assumption)) | (with_reducible refine below_drewN ?_ _) | (with_reducible apply Below.drew) | (with_reducible refine below_alloc ?_ _) | refine Below.setCell ?_ (by first | (simp; done) | (simp; omega)) _))))) ).mono ?_; rintro e w' ⟨rfl, hb⟩; obtain ⟨hT, hk⟩ := bv_next hb (by (repeat (with_reducible first | assumption | apply Trk.alloc | apply Trk.setCell | apply Trk.drewN | apply Trk.drew | exact Trk.nil _))); simp only [SameOn, World.size_alloc, World.size_setCell, World.size_drew, size_drewN', and_true] at hk; have hsz := Below.size hb; (try simp only [World.size_alloc, World.size_setCell, World.size_drew, size_drewN'] at hsz)))))
    all_goals (try (first | kernel_rfl | rfl))
    all_goals
      refine bodyPost_ret (v := .tuple #[.float .f32 0, .float .f32 0, .bool false]) (by simp [results, Try.results23, go_sem, *]) rfl ?_
      exact ⟨_, _, rfl, by simp [lowV, h0], by simp [highV, h0], by (repeat (first | (with_reducible exact Below.refl _ _) | (with_reducible assumption) | (with_reducible refine below_then ?_ (by assumption)) | (with_reducible refine Below.trans ?_ (by assumption)) | (with_reducible refine below_drewN ?_ _) | (with_reducible apply Below.drew) | (with_reducible refine below_alloc ?_ _) | refine Below.setCell ?_ (by first | (simp; done) | (simp; omega)) _))⟩
  rw [h0] at HV
  have HL0 := Lib.hid (lowV_ok h0)
  have HH0 := Lib.hid (highV_ok h0)
  obtain ⟨hW, hH, hla, hlb, hlc, hld⟩ := Pl.ok_len h0
  obtain ⟨b1, o1, z1, b2, o2, z2, b3, o3, z3, b4, o4, z4, rfl, ⟨⟨hz1, hz1'⟩, ⟨hz2, hz2'⟩, ⟨hz3, hz3'⟩, hz4, hz4'⟩, HA, HB, HC, HD⟩ := Pl.view HS.out h0
  have HLB : Hid (P.b.length = P.a.length) := by show _ = _; omega
  have HLC : Hid (P.c.length = P.a.length) := by show _ = _; omega
  have HLD : Hid (P.d.length = P.a.length) := by show _ = _; omega
  have HLA : Hid ((P.a.length : Int) = P.W * P.H) := hla
  (try dsimp only)
  clear hla hlb hlc hld
  have hn0 : 0 < P.a.length := by
    have := Int.mul_le_mul hW.1 hH.1 (by omega) (by omega); have := HLA.out; omega
  have h00 := HA.out 0 hn0
  rw [Nat.add_zero] at h00
  have hb1 := World.block_lt_of_cell? _ _ h00
  have hT0 : Trk w [b1] := (Trk.nil w).more hb1
  have hb1' : b1 ≠ w.heap.size := by dsimp only at hb1; omega
  have Hst : Hid (cn .f32 (P.a.getD 0 0) = lowA P 0 ∧ cn .f32 (P.a.getD 0 0) = highA P 0) := ⟨rfl, rfl⟩
  generalize P.a.getD 0 0 = x0 at h00 Hst
  go_enter Try.func23, Try.ntmps23
  go_wp2_with (first | (with_reducible refine at_list ?_; refine wpList_fop rfl rfl rfl rfl rfl ?_; intro r n hr0; have hr := hr0 _ _ (by first | with_reducible assumption | exact rfl) (by first | with_reducible assumption | exact rfl); clear hr0) | (with_reducible refine at_list ?_; refine wpList_neg rfl rfl rfl ?_; intro r hr0; have hr := hr0 _ (by first | with_reducible assumption | exact rfl); clear hr0) | (with_reducible refine at_list ?_; refine wpList_fop_g rfl rfl rfl rfl rfl ?_; intro r n hr0; have hr := hr0 _ _ (by first | with_reducible assumption | exact rfl) (by first | with_reducible assumption | exact rfl); clear hr0) | (with_reducible refine at_list ?_; refine wpList_wide_g rfl rfl Try.underlying26 Try.underlying54 rfl ?_; intro r n hr0; have hr := hr0 _ (by first | with_reducible assumption | exact rfl); clear hr0) | (with_reducible refine at_list ?_; refine wpList_wide rfl rfl rfl Try.underlying26 Try.underlying54 ?_; intro r n hr0; have hr := hr0 _ (by first | with_reducible assumption | exact rfl); clear hr0) | (go_at_call 36; refine ((HV.out _ (HS.out.later (by (repeat (first | (with_reducible exact Below.refl _ _) | (with_reducible assumption) | (with_reducible refine below_then ?_ (by assumption)) | (with_reducible refine Below.trans ?_ (by assumption)) | (with_reducible refine below_drewN ?_ _) | (with_reducible apply Below.drew) | (with_reducible refine below_alloc ?_ _) | refine Below.setCell ?_ (by first | (simp; done) | (simp; omega)) _))))) ).mono ?_; rintro e w' ⟨rfl, hb⟩; obtain ⟨hT, hk⟩ := bv_next hb (by (repeat (with_reducible first | assumption | apply Trk.alloc | apply Trk.setCell | apply Trk.drewN | apply Trk.drew | exact Trk.nil _))); simp only [SameOn, World.size_alloc, World.size_setCell, World.size_drew, size_drewN', and_true] at hk; have hsz := Below.size hb; (try simp only [World.size_alloc, World.size_setCell, World.size_drew, size_drewN'] at hsz)))
  (refine wp_some_lit (by kernel_rfl) (by kernel_rfl) ?_; (refine wpSome_one ?_; go_big_quiet_step (fail); refine wpQuiet_nil ?_); (refine wpSome_one ?_; go_big_quiet_step (fail); refine wpQuiet_nil ?_); (refine wpSome_one ?_; go_big_quiet_step (fail); refine wpQuiet_nil ?_); (refine wpSome_one ?_; go_big_quiet_step (fail); refine wpQuiet_nil ?_); (refine wpSome_one ?_; go_big_quiet_step (fail); refine wpQuiet_nil ?_); (refine wpSome_one ?_; go_big_quiet_step (fail); refine wpQuiet_nil ?_); (refine wpSome_one ?_; go_big_quiet_step (fail); refine wpQuiet_nil ?_); (refine wpSome_one ?_; go_big_quiet_step (fail); refine wpQuiet_nil ?_); (refine wpSome_one ?_; go_big_quiet_step (fail); refine wpQuiet_nil ?_); (refine wpSome_one ?_; go_big_quiet_step (fail); refine wpQuiet_nil ?_); refine wpSome_nil ?_; intro w' hw'; obtain ⟨nq, rfl⟩ := hw')
  go_wp2_with (first | (with_reducible refine at_list ?_; refine wpList_fop rfl rfl rfl rfl rfl ?_; intro r n hr0; have hr := hr0 _ _ (by first | with_reducible assumption | exact rfl) (by first | with_reducible assumption | exact rfl); clear hr0) | (with_reducible refine at_list ?_; refine wpList_neg rfl rfl rfl ?_; intro r hr0; have hr := hr0 _ (by first | with_reducible assumption | exact rfl); clear hr0) | (with_reducible refine at_list ?_; refine wpList_fop_g rfl rfl rfl rfl rfl ?_; intro r n hr0; have hr := hr0 _ _ (by first | with_reducible assumption | exact rfl) (by first | with_reducible assumption | exact rfl); clear hr0) | (with_reducible refine at_list ?_; refine wpList_wide_g rfl rfl Try.underlying26 Try.underlying54 rfl ?_; intro r n hr0; have hr := hr0 _ (by first | with_reducible assumption | exact rfl); clear hr0) | (with_reducible refine at_list ?_; refine wpList_wide rfl rfl rfl Try.underlying26 Try.underlying54 ?_; intro r n hr0; have hr := hr0 _ (by first | with_reducible assumption | exact rfl); clear hr0) | (go_at_call 36; refine (implValidPlate_any _ _ _ (by assumption)).mono ?_; rintro e w' ⟨rfl, hb⟩; obtain ⟨hT, hk⟩ := bv_next hb (by (repeat (with_reducible first | assumption | apply Trk.alloc | apply Trk.setCell | apply Trk.drewN | apply Trk.drew | exact Trk.nil _))); simp only [SameOn, World.size_alloc, World.size_setCell, World.size_drew, size_drewN', and_true] at hk; have hsz := Below.size hb; (try simp only [World.size_alloc, World.size_setCell, World.size_drew, size_drewN'] at hsz)))
  refine wp_named ?_
  intro ws hws
  have hBs : Below w.heap.size w ws := by rw [hws]; (repeat (first | (with_reducible exact Below.refl _ _) | (with_reducible assumption) | (with_reducible refine below_then ?_ (by assumption)) | (with_reducible refine Below.trans ?_ (by assumption)) | (with_reducible refine below_drewN ?_ _) | (with_reducible apply Below.drew) | (with_reducible refine below_alloc ?_ _) | refine Below.setCell ?_ (by first | (simp; done) | (simp; omega)) _))
  have hzs : w.heap.size < ws.heap.size := by rw [hws]; first | omega | (simp; done) | (simp; omega)
  have hat : PlAt P ⟨some ⟨b1, o1, none⟩, z1, some ⟨b2, o2, none⟩, z2, some ⟨b3, o3, none⟩, z3, some ⟨b4, o4, none⟩, z4⟩ ws w.heap.size 0 := by rw [hws]; exact (by unfold PlAt; refine ⟨?_, ?_, ?_, ?_, ?_, ?_⟩ <;> go_simp)
  go_loopw [5, 6, 23] (fun s u t wr => ∃ k r q : Nat, k ≤ P.a.length ∧ 0 ≤ k ∧ t = .int .i64 k ∧ s = .float .f32 r ∧ u = .float .f32 q ∧ Hid (cn .f32 r = lowA P k) ∧ Hid (cn .f32 q = highA P k) ∧ (Below w.heap.size w wr ∧ w.heap.size < wr.heap.size ∧ Hid (PlAt P ⟨some ⟨b1, o1, none⟩, z1, some ⟨b2, o2, none⟩, z2, some ⟨b3, o3, none⟩, z3, some ⟨b4, o4, none⟩, z4⟩ wr w.heap.size 0))) (fun _ _ t _ => P.a.length - (intOf t).toNat)
  case atStart => exact ⟨0, x0, x0, by omega, by omega, by first | rfl | simp, rfl, rfl, Hst.out.1, Hst.out.2, ⟨hBs, hzs, hat⟩⟩
  case round =>
    clear hws hBs hzs hat h00
    obtain ⟨k, r, q, hk, hk1, rfl, rfl, rfl, HR, HQ, hplinv⟩ := hrel
    obtain ⟨hB, hwr, HBA⟩ := hplinv
    obtain ⟨g0, g1, g2, g3, g4, g5⟩ := HBA.out
    dsimp only at g0 g1 g2 g3 g4 g5
    have hT : Trk wr [w.heap.size] := (Trk.nil wr).more hwr
    by_cases hlt : k < P.a.length
    · have hca := cell_later hB (HA.out k hlt)
      have HS1 := Lib.hid (lowA_step P k)
      have HS2 := Lib.hid (highA_step P k)
      have hr := HR.out
      have hq := HQ.out
      generalize P.a.getD k 0 = x at hca HS1 HS2
      generalize lowA P k = lo at hr HR HS1
      generalize highA P k = hi at hq HQ HS2
      clear HA HB HC HD
      rcases f1 : flt .f32 (cn .f32 x) lo <;> rcases f2 : fgt .f32 (cn .f32 x) hi
      all_goals
        go_wp2_with (first | (with_reducible refine at_list ?_; refine wpList_fop rfl rfl rfl rfl rfl ?_; intro r n hr0; have hr := hr0 _ _ (by first | with_reducible assumption | exact rfl) (by first | with_reducible assumption | exact rfl); clear hr0) | (with_reducible refine at_list ?_; refine wpList_neg rfl rfl rfl ?_; intro r hr0; have hr := hr0 _ (by first | with_reducible assumption | exact rfl); clear hr0) | (with_reducible refine at_list ?_; refine wpList_fop_g rfl rfl rfl rfl rfl ?_; intro r n hr0; have hr := hr0 _ _ (by first | with_reducible assumption | exact rfl) (by first | with_reducible assumption | exact rfl); clear hr0) | (with_reducible refine at_list ?_; refine wpList_wide_g rfl rfl Try.underlying26 Try.underlying54 rfl ?_; intro r n hr0; have hr := hr0 _ (by first | with_reducible assumption | exact rfl); clear hr0) | (with_reducible refine at_list ?_; refine wpList_wide rfl rfl rfl Try.underlying26 Try.underlying54 ?_; intro r n hr0; have hr := hr0 _ (by first | with_reducible assumption | exact rfl); clear hr0) | (go_at_call 36; refine (implValidPlate_any _ _ _ (by assumption)).mono ?_; rintro e w' ⟨rfl, hb⟩; obtain ⟨hT, hk⟩ := bv_next hb (by (repeat (with_reducible first | assumption | apply Trk.alloc | apply Trk.setCell | apply Trk.drewN | apply Trk.drew | exact Trk.nil _))); simp only [SameOn, World.size_alloc, World.size_setCell, World.size_drew, size_drewN', and_true] at hk; have hsz := Below.size hb; (try simp only [World.size_alloc, World.size_setCell, World.size_drew, size_drewN'] at hsz)))
        go_roundw
        case rel => exact ⟨k + 1, _, _, by omega, by omega, by go_num, rfl, rfl, by show _ = _; rw [HS1.out, f1]; first | rfl | exact HR.out, by show _ = _; rw [HS2.out, f2]; first | rfl | exact HQ.out, ⟨by first | assumption | (repeat (first | (with_reducible exact Below.refl _ _) | (with_reducible assumption) | (with_reducible refine below_then ?_ (by assumption)) | (with_reducible refine Below.trans ?_ (by assumption)) | (with_reducible refine below_drewN ?_ _) | (with_reducible apply Below.drew) | (with_reducible refine below_alloc ?_ _) | refine Below.setCell ?_ (by first | (simp; done) | (simp; omega)) _)), by first | assumption | (simp only [size_drewN']; omega) | (simp; omega), by first | assumption | exact (by unfold PlAt; refine ⟨?_, ?_, ?_, ?_, ?_, ?_⟩ <;> go_simp)⟩⟩
        case measure => simp [intOf]; omega
    · have he : k = P.a.length := by omega
      have HR2 : Hid (cn .f32 r = lowV P) := by show _ = _; rw [HL0.out, ← he]; exact HR.out
      have HQ2 : Hid (cn .f32 q = highV P) := by show _ = _; rw [HH0.out, ← he]; exact HQ.out
      clear HR HQ
      go_wp2_with (first | (with_reducible refine at_list ?_; refine wpList_fop rfl rfl rfl rfl rfl ?_; intro r n hr0; have hr := hr0 _ _ (by first | with_reducible assumption | exact rfl) (by first | with_reducible assumption | exact rfl); clear hr0) | (with_reducible refine at_list ?_; refine wpList_neg rfl rfl rfl ?_; intro r hr0; have hr := hr0 _ (by first | with_reducible assumption | exact rfl); clear hr0) | (with_reducible refine at_list ?_; refine wpList_fop_g rfl rfl rfl rfl rfl ?_; intro r n hr0; have hr := hr0 _ _ (by first | with_reducible assumption | exact rfl) (by first | with_reducible assumption | exact rfl); clear hr0) | (with_reducible refine at_list ?_; refine wpList_wide_g rfl rfl Try.underlying26 Try.underlying54 rfl ?_; intro r n hr0; have hr := hr0 _ (by first | with_reducible assumption | exact rfl); clear hr0) | (with_reducible refine at_list ?_; refine wpList_wide rfl rfl rfl Try.underlying26 Try.underlying54 ?_; intro r n hr0; have hr := hr0 _ (by first | with_reducible assumption | exact rfl); clear hr0) | (go_at_call 36; refine (implValidPlate_any _ _ _ (by assumption)).mono ?_; rintro e w' ⟨rfl, hb⟩; obtain ⟨hT, hk⟩ := bv_next hb (by (repeat (with_reducible first | assumption | apply Trk.alloc | apply Trk.setCell | apply Trk.drewN | apply Trk.drew | exact Trk.nil _))); simp only [SameOn, World.size_alloc, World.size_setCell, World.size_drew, size_drewN', and_true] at hk; have hsz := Below.size hb; (try simp only [World.size_alloc, World.size_setCell, World.size_drew, size_drewN'] at hsz)))
      refine bodyPost_ret (v := .tuple #[.float .f32 r, .float .f32 q, .bool true]) (by simp [results, Try.results23, go_sem, *]) rfl ?_
      exact ⟨_, _, rfl, HR2.out, HQ2.out, by (repeat (first | (with_reducible exact Below.refl _ _) | (with_reducible assumption) | (with_reducible refine below_then ?_ (by assumption)) | (with_reducible refine Below.trans ?_ (by assumption)) | (with_reducible refine below_drewN ?_ _) | (with_reducible apply Below.drew) | (with_reducible refine below_alloc ?_ _) | refine Below.setCell ?_ (by first | (simp; done) | (simp; omega)) _))⟩
end Go.Proofs.Ytphamdlnnfionaa
