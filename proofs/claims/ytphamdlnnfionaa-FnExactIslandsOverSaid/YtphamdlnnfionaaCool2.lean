/-
  Paths to ever cooler cells: the program's and the reference's. No condition but what each contract says.
-/
import Derived.Test.YtphamdlnnfionaaCool
set_option linter.unusedSimpArgs false
set_option linter.unusedVariables false
set_option linter.unusedSectionVars false
namespace Go.Proofs.Ytphamdlnnfionaa
open Go Go.RowKit
open Go.ChangeShapes Go.WideShapes Go.ChangeAt Go.RowKit Go.Joins
theorem OI.litn (w : World) (B m n : Nat) (xs : List Int) (hn : xs.length = n) (hB : B ≤ w.heap.size) (hx : n ≤ 1000) (hm : m = w.heap.size) : OI B (w.alloc (.cells (xs.map (Value.int .i64)).toArray 2)) (.slice (some ⟨m, 0, none⟩) n n) xs := by
  subst hm
  exact OI.lit w B n xs hn hB hx
set_option maxHeartbeats 8000000 in
theorem implCoolPath_any (P : Pl) (l : Lay) (i : Int) (w : World) (E : List Int) (b : Bool) (hR : coolR P i E b) (hs : P.fs w l) : Calls Try.prog 19 #[.agg #[.int .i64 P.W, .int .i64 P.H, .slice l.p1 P.a.length l.c1, .slice l.p2 P.b.length l.c2, .slice l.p3 P.c.length l.c3, .slice l.p4 P.d.length l.c4], .int .i64 i] w (BIB w E b) := by
  have HS := Lib.hid hs
  clear hs
  have HV := Lib.hid (fun w h => implValidPlate_any P l w h)
  rcases h0 : P.ok
  · rw [h0] at HV
    have HE : Hid (b = false ∧ E = []) := by
      rcases hR with ⟨h1, h2, _⟩ | ⟨_, h, _⟩
      · exact ⟨h1, h2⟩
      · rw [h0] at h; exact absurd h.1 (by simp)
    clear hR
    go_enter Try.func19, Try.ntmps19
    go_wp2_with (first | (with_reducible refine at_list ?_; refine wpList_fop rfl rfl rfl rfl rfl ?_; intro r n hr0; have hr := hr0 _ _ (by first | with_reducible assumption | exact rfl) (by first | with_reducible assumption | exact rfl); clear hr0) | (with_reducible refine at_list ?_; refine wpList_neg rfl rfl rfl ?_; intro r hr0; have hr := hr0 _ (by first | with_reducible assumption | exact rfl); clear hr0) | (with_reducible refine at_list ?_; refine wpList_fop_g rfl rfl rfl rfl rfl ?_; intro r n hr0; have hr := hr0 _ _ (by first | with_reducible assumption | exact rfl) (by first | with_reducible assumption | exact rfl); clear hr0) | (with_reducible refine at_list ?_; refine wpList_wide_g rfl rfl Try.underlying26 Try.underlying54 rfl ?_; intro r n hr0; have hr := hr0 _ (by first | with_reducible assumption | exact rfl); clear hr0) | (with_reducible refine at_list ?_; refine wpList_wide rfl rfl rfl Try.underlying26 Try.underlying54 ?_; intro r n hr0; have hr := hr0 _ (by first | with_reducible assumption | exact rfl); clear hr0) | (go_at_call 36; refine ((HV.out _ (HS.out.later (by (repeat (first | (with_reducible exact Below.refl _ _) | (with_reducible assumption) | (with_reducible refine below_then ?_ (by assumption)) | (with_reducible refine Below.trans ?_ (by assumption)) | (with_reducible refine below_drewN ?_ _) | (with_reducible apply Below.drew) | (with_reducible refine below_alloc ?_ _) | refine Below.setCell ?_ (by first | (simp; done) | (simp; omega)) _))))) ).mono ?_; rintro e w' ⟨rfl, hb⟩; obtain ⟨hT, hk⟩ := bv_next hb (by (repeat (with_reducible first | assumption | apply Trk.alloc | apply Trk.setCell | apply Trk.drewN | apply Trk.drew | exact Trk.nil _))); simp only [SameOn, World.size_alloc, World.size_setCell, World.size_drew, size_drewN', and_true] at hk; have hsz := Below.size hb; (try simp only [World.size_alloc, World.size_setCell, World.size_drew, size_drewN'] at hsz)) | (go_at_call 47; refine (isCell_any _ _ _ _ (by assumption)).mono ?_; rintro e w' ⟨rfl, hb⟩; obtain ⟨hT, hk⟩ := bv_next hb (by (repeat (with_reducible first | assumption | apply Trk.alloc | apply Trk.setCell | apply Trk.drewN | apply Trk.drew | exact Trk.nil _))); simp only [SameOn, World.size_alloc, World.size_setCell, World.size_drew, size_drewN', and_true] at hk; have hsz := Below.size hb; (try simp only [World.size_alloc, World.size_setCell, World.size_drew, size_drewN'] at hsz)) | (go_at_call 38; refine (neighbours_any _ _ _ _ (by omega) (by omega) (by omega)).mono ?_; rintro e w' ⟨u, rfl, hb, hO⟩; obtain ⟨pu, cu, rfl⟩ := OI.shape hO; (try simp only [World.size_alloc, World.size_setCell, World.size_drew, World.drewN] at hO); obtain ⟨hT, hk⟩ := bv_next hb (by (repeat (with_reducible first | assumption | apply Trk.alloc | apply Trk.setCell | apply Trk.drewN | apply Trk.drew | exact Trk.nil _))); simp only [SameOn, World.size_alloc, World.size_setCell, World.size_drew, size_drewN', and_true] at hk; have hsz := Below.size hb; (try simp only [World.size_alloc, World.size_setCell, World.size_drew, size_drewN'] at hsz)))
    all_goals
      go_ret2
      exact ⟨_, by rw [HE.out.1]; rfl, by (repeat (first | (with_reducible exact Below.refl _ _) | (with_reducible assumption) | (with_reducible refine below_then ?_ (by assumption)) | (with_reducible refine Below.trans ?_ (by assumption)) | (with_reducible refine below_drewN ?_ _) | (with_reducible apply Below.drew) | (with_reducible refine below_alloc ?_ _) | refine Below.setCell ?_ (by first | (simp; done) | (simp; omega)) _)), by rw [HE.out.2]; exact OI.nil0 _ _⟩
  rw [h0] at HV
  have HIC := Lib.hid (fun w => isCell_any P l i w h0)
  rcases h1 : P.cell i
  · rw [h1] at HIC
    have HE : Hid (b = false ∧ E = []) := by
      rcases hR with ⟨h1, h2, _⟩ | ⟨_, h, _⟩
      · exact ⟨h1, h2⟩
      · rw [h1] at h; exact absurd h.2 (by simp)
    clear hR
    go_enter Try.func19, Try.ntmps19
    go_wp2_with (first | (with_reducible refine at_list ?_; refine wpList_fop rfl rfl rfl rfl rfl ?_; intro r n hr0; have hr := hr0 _ _ (by first | with_reducible assumption | exact rfl) (by first | with_reducible assumption | exact rfl); clear hr0) | (with_reducible refine at_list ?_; refine wpList_neg rfl rfl rfl ?_; intro r hr0; have hr := hr0 _ (by first | with_reducible assumption | exact rfl); clear hr0) | (with_reducible refine at_list ?_; refine wpList_fop_g rfl rfl rfl rfl rfl ?_; intro r n hr0; have hr := hr0 _ _ (by first | with_reducible assumption | exact rfl) (by first | with_reducible assumption | exact rfl); clear hr0) | (with_reducible refine at_list ?_; refine wpList_wide_g rfl rfl Try.underlying26 Try.underlying54 rfl ?_; intro r n hr0; have hr := hr0 _ (by first | with_reducible assumption | exact rfl); clear hr0) | (with_reducible refine at_list ?_; refine wpList_wide rfl rfl rfl Try.underlying26 Try.underlying54 ?_; intro r n hr0; have hr := hr0 _ (by first | with_reducible assumption | exact rfl); clear hr0) | (go_at_call 36; refine ((HV.out _ (HS.out.later (by (repeat (first | (with_reducible exact Below.refl _ _) | (with_reducible assumption) | (with_reducible refine below_then ?_ (by assumption)) | (with_reducible refine Below.trans ?_ (by assumption)) | (with_reducible refine below_drewN ?_ _) | (with_reducible apply Below.drew) | (with_reducible refine below_alloc ?_ _) | refine Below.setCell ?_ (by first | (simp; done) | (simp; omega)) _))))) ).mono ?_; rintro e w' ⟨rfl, hb⟩; obtain ⟨hT, hk⟩ := bv_next hb (by (repeat (with_reducible first | assumption | apply Trk.alloc | apply Trk.setCell | apply Trk.drewN | apply Trk.drew | exact Trk.nil _))); simp only [SameOn, World.size_alloc, World.size_setCell, World.size_drew, size_drewN', and_true] at hk; have hsz := Below.size hb; (try simp only [World.size_alloc, World.size_setCell, World.size_drew, size_drewN'] at hsz)) | (go_at_call 47; refine ((HIC.out _) ).mono ?_; rintro e w' ⟨rfl, hb⟩; obtain ⟨hT, hk⟩ := bv_next hb (by (repeat (with_reducible first | assumption | apply Trk.alloc | apply Trk.setCell | apply Trk.drewN | apply Trk.drew | exact Trk.nil _))); simp only [SameOn, World.size_alloc, World.size_setCell, World.size_drew, size_drewN', and_true] at hk; have hsz := Below.size hb; (try simp only [World.size_alloc, World.size_setCell, World.size_drew, size_drewN'] at hsz)) | (go_at_call 38; refine (neighbours_any _ _ _ _ (by omega) (by omega) (by omega)).mono ?_; rintro e w' ⟨u, rfl, hb, hO⟩; obtain ⟨pu, cu, rfl⟩ := OI.shape hO; (try simp only [World.size_alloc, World.size_setCell, World.size_drew, World.drewN] at hO); obtain ⟨hT, hk⟩ := bv_next hb (by (repeat (with_reducible first | assumption | apply Trk.alloc | apply Trk.setCell | apply Trk.drewN | apply Trk.drew | exact Trk.nil _))); simp only [SameOn, World.size_alloc, World.size_setCell, World.size_drew, size_drewN', and_true] at hk; have hsz := Below.size hb; (try simp only [World.size_alloc, World.size_setCell, World.size_drew, size_drewN'] at hsz)))
    all_goals
      go_ret2
      exact ⟨_, by rw [HE.out.1]; rfl, by (repeat (first | (with_reducible exact Below.refl _ _) | (with_reducible assumption) | (with_reducible refine below_then ?_ (by assumption)) | (with_reducible refine Below.trans ?_ (by assumption)) | (with_reducible refine below_drewN ?_ _) | (with_reducible apply Below.drew) | (with_reducible refine below_alloc ?_ _) | refine Below.setCell ?_ (by first | (simp; done) | (simp; omega)) _)), by rw [HE.out.2]; exact OI.nil0 _ _⟩
  rw [h1] at HIC
  have HR : Hid (b = true ∧ Path P i E ∧ E.length ≤ 1000) := by
    rcases hR with ⟨_, _, h⟩ | ⟨h, _, h2⟩
    · rw [h0, h1] at h; cases h
    · exact ⟨h, h2⟩
  have HCI := Lib.hid h1
  clear hR
  have HN0 := Lib.hid (fun (x : Int) (hx : P.cell x = true) l w => neighbours_any P l x w (Pl.ok_len h0).1 (Pl.ok_len h0).2.1 (Pl.cell_iff hx))
  obtain ⟨hW, hH, hla, hlb, hlc, hld⟩ := Pl.ok_len h0
  obtain ⟨b1, o1, z1, b2, o2, z2, b3, o3, z3, b4, o4, z4, rfl, ⟨⟨hz1, hz1'⟩, ⟨hz2, hz2'⟩, ⟨hz3, hz3'⟩, hz4, hz4'⟩, HA, HB, HC, HD⟩ := Pl.view HS.out h0
  have HLB : Hid (P.b.length = P.a.length) := by show _ = _; omega
  have HLC : Hid (P.c.length = P.a.length) := by show _ = _; omega
  have HLD : Hid (P.d.length = P.a.length) := by show _ = _; omega
  have HLA : Hid ((P.a.length : Int) = P.W * P.H) := hla
  (try dsimp only)
  clear hla hlb hlc hld
  obtain ⟨hn1, hn2⟩ := Pl.ok_n h0
  have hla := HLA.out
  have hlE := HR.out.2.2
  have H0 := Lib.hid h0
  go_enter Try.func19, Try.ntmps19
  go_wp2_with (first | (with_reducible refine at_list ?_; refine wpList_fop rfl rfl rfl rfl rfl ?_; intro r n hr0; have hr := hr0 _ _ (by first | with_reducible assumption | exact rfl) (by first | with_reducible assumption | exact rfl); clear hr0) | (with_reducible refine at_list ?_; refine wpList_neg rfl rfl rfl ?_; intro r hr0; have hr := hr0 _ (by first | with_reducible assumption | exact rfl); clear hr0) | (with_reducible refine at_list ?_; refine wpList_fop_g rfl rfl rfl rfl rfl ?_; intro r n hr0; have hr := hr0 _ _ (by first | with_reducible assumption | exact rfl) (by first | with_reducible assumption | exact rfl); clear hr0) | (with_reducible refine at_list ?_; refine wpList_wide_g rfl rfl Try.underlying26 Try.underlying54 rfl ?_; intro r n hr0; have hr := hr0 _ (by first | with_reducible assumption | exact rfl); clear hr0) | (with_reducible refine at_list ?_; refine wpList_wide rfl rfl rfl Try.underlying26 Try.underlying54 ?_; intro r n hr0; have hr := hr0 _ (by first | with_reducible assumption | exact rfl); clear hr0) | (go_at_call 36; refine ((HV.out _ (HS.out.later (by (repeat (first | (with_reducible exact Below.refl _ _) | (with_reducible assumption) | (with_reducible refine below_then ?_ (by assumption)) | (with_reducible refine Below.trans ?_ (by assumption)) | (with_reducible refine below_drewN ?_ _) | (with_reducible apply Below.drew) | (with_reducible refine below_alloc ?_ _) | refine Below.setCell ?_ (by first | (simp; done) | (simp; omega)) _))))) ).mono ?_; rintro e w' ⟨rfl, hb⟩; obtain ⟨hT, hk⟩ := bv_next hb (by (repeat (with_reducible first | assumption | apply Trk.alloc | apply Trk.setCell | apply Trk.drewN | apply Trk.drew | exact Trk.nil _))); simp only [SameOn, World.size_alloc, World.size_setCell, World.size_drew, size_drewN', and_true] at hk; have hsz := Below.size hb; (try simp only [World.size_alloc, World.size_setCell, World.size_drew, size_drewN'] at hsz)) | (go_at_call 47; refine ((HIC.out _) ).mono ?_; rintro e w' ⟨rfl, hb⟩; obtain ⟨hT, hk⟩ := bv_next hb (by (repeat (with_reducible first | assumption | apply Trk.alloc | apply Trk.setCell | apply Trk.drewN | apply Trk.drew | exact Trk.nil _))); simp only [SameOn, World.size_alloc, World.size_setCell, World.size_drew, size_drewN', and_true] at hk; have hsz := Below.size hb; (try simp only [World.size_alloc, World.size_setCell, World.size_drew, size_drewN'] at hsz)) | (go_at_call 38; refine (neighbours_any _ _ _ _ (by omega) (by omega) (by omega)).mono ?_; rintro e w' ⟨u, rfl, hb, hO⟩; obtain ⟨pu, cu, rfl⟩ := OI.shape hO; (try simp only [World.size_alloc, World.size_setCell, World.size_drew, World.drewN] at hO); obtain ⟨hT, hk⟩ := bv_next hb (by (repeat (with_reducible first | assumption | apply Trk.alloc | apply Trk.setCell | apply Trk.drewN | apply Trk.drew | exact Trk.nil _))); simp only [SameOn, World.size_alloc, World.size_setCell, World.size_drew, size_drewN', and_true] at hk; have hsz := Below.size hb; (try simp only [World.size_alloc, World.size_setCell, World.size_drew, size_drewN'] at hsz)))
  refine wp_named ?_
  intro ws hws
  have hBs : Below w.heap.size w ws := by rw [hws]; (repeat (first | (with_reducible exact Below.refl _ _) | (with_reducible assumption) | (with_reducible refine below_then ?_ (by assumption)) | (with_reducible refine Below.trans ?_ (by assumption)) | (with_reducible refine below_drewN ?_ _) | (with_reducible apply Below.drew) | (with_reducible refine below_alloc ?_ _) | refine Below.setCell ?_ (by first | (simp; done) | (simp; omega)) _))
  have hzs : w.heap.size + 1 ≤ ws.heap.size := by rw [hws]; first | omega | (simp; done) | (simp; omega)
  have hat : PlAt P ⟨some ⟨b1, o1, none⟩, z1, some ⟨b2, o2, none⟩, z2, some ⟨b3, o3, none⟩, z3, some ⟨b4, o4, none⟩, z4⟩ ws w.heap.size 0 := by rw [hws]; exact (by unfold PlAt; refine ⟨?_, ?_, ?_, ?_, ?_, ?_⟩ <;> go_simp)
  have HO00 : Hid (OI (w.heap.size + 1) ws (.slice (some ⟨w'.heap.size, 0, none⟩) 1 1) [i]) := by rw [hws]; exact OI.lit _ _ 1 [i] rfl (by first | omega | (simp; omega)) (by omega)
  clear hws hb hk hT hsz
  go_loopw [1, 6, 7, 9] (fun t s _ _ wr => ∃ (x : Int) (c : Nat) (q : Option Addr) (A R : List Int), t = .int .i64 x ∧ s = .slice q A.length c ∧ Hid (P.cell x = true) ∧ Hid (E = A ++ R) ∧ Hid (Path P x (x :: R)) ∧ Hid (OI (w.heap.size + 1) wr (.slice q A.length c) A) ∧ Below w.heap.size w wr ∧ w.heap.size + 1 ≤ wr.heap.size ∧ Hid (PlAt P ⟨some ⟨b1, o1, none⟩, z1, some ⟨b2, o2, none⟩, z2, some ⟨b3, o3, none⟩, z3, some ⟨b4, o4, none⟩, z4⟩ wr w.heap.size 0)) (fun _ s _ _ _ => E.length - lenOf s)
  case atStart =>
    obtain ⟨R, hR⟩ := HR.out.2.1.head
    exact ⟨i, 1, some ⟨_, 0, none⟩, [i], R, rfl, rfl, HCI.out, by show _ = _; rw [hR]; rfl, by show Path P i (i :: R); rw [← hR]; exact HR.out.2.1, HO00.out, hBs, hzs, hat⟩
  case round =>
    clear hBs hzs hat HO00
    obtain ⟨x, c, q, A, R, rfl, rfl, HX, HE, HP, HO, hB, hzr, HAT⟩ := hrel
    rename World => wo
    obtain ⟨g0, g1, g2, g3, g4, g5⟩ := HAT.out
    simp only [Nat.zero_add] at g0 g1 g2 g3 g4 g5
    have hT : Trk wo [w.heap.size] := (Trk.nil wo).more (by omega)
    have HNk := Lib.hid (HN0.out x HX.out)
    have HBC : Hid (∀ j, P.cell (bestL P x ((nbl P.W P.H x).take j)) = true) := fun j => bestL_cell H0.out HX.out (fun k hk => nbl_cells k (List.mem_of_mem_take hk))
    have HBS := Lib.hid (fun j h => bestL_step P x (nbl P.W P.H x) (j := j) h)
    have HBE : Hid (best P x = bestL P x (nbl P.W P.H x)) := rfl
    have HB0 : Hid (bestL P x ((nbl P.W P.H x).take 0) = x) := rfl
    have HMC := Lib.hid (fun j h => nbl_at (W := P.W) (H := P.H) (i := x) (j := j) h)
    have hM4 := nbl_len P.W P.H x
    generalize nbl P.W P.H x = M at HNk HBC HBS HBE HB0 HMC hM4
    go_wp2_with (first | (with_reducible refine at_list ?_; refine wpList_fop rfl rfl rfl rfl rfl ?_; intro r n hr0; have hr := hr0 _ _ (by first | with_reducible assumption | exact rfl) (by first | with_reducible assumption | exact rfl); clear hr0) | (with_reducible refine at_list ?_; refine wpList_neg rfl rfl rfl ?_; intro r hr0; have hr := hr0 _ (by first | with_reducible assumption | exact rfl); clear hr0) | (with_reducible refine at_list ?_; refine wpList_fop_g rfl rfl rfl rfl rfl ?_; intro r n hr0; have hr := hr0 _ _ (by first | with_reducible assumption | exact rfl) (by first | with_reducible assumption | exact rfl); clear hr0) | (with_reducible refine at_list ?_; refine wpList_wide_g rfl rfl Try.underlying26 Try.underlying54 rfl ?_; intro r n hr0; have hr := hr0 _ (by first | with_reducible assumption | exact rfl); clear hr0) | (with_reducible refine at_list ?_; refine wpList_wide rfl rfl rfl Try.underlying26 Try.underlying54 ?_; intro r n hr0; have hr := hr0 _ (by first | with_reducible assumption | exact rfl); clear hr0) | (go_at_call 36; refine (implValidPlate_any _ _ _ (by assumption)).mono ?_; rintro e w' ⟨rfl, hb⟩; obtain ⟨hT, hk⟩ := bv_next hb (by (repeat (with_reducible first | assumption | apply Trk.alloc | apply Trk.setCell | apply Trk.drewN | apply Trk.drew | exact Trk.nil _))); simp only [SameOn, World.size_alloc, World.size_setCell, World.size_drew, size_drewN', and_true] at hk; have hsz := Below.size hb; (try simp only [World.size_alloc, World.size_setCell, World.size_drew, size_drewN'] at hsz)) | (go_at_call 47; refine (isCell_any _ _ _ _ (by assumption)).mono ?_; rintro e w' ⟨rfl, hb⟩; obtain ⟨hT, hk⟩ := bv_next hb (by (repeat (with_reducible first | assumption | apply Trk.alloc | apply Trk.setCell | apply Trk.drewN | apply Trk.drew | exact Trk.nil _))); simp only [SameOn, World.size_alloc, World.size_setCell, World.size_drew, size_drewN', and_true] at hk; have hsz := Below.size hb; (try simp only [World.size_alloc, World.size_setCell, World.size_drew, size_drewN'] at hsz)) | (go_at_call 38; refine ((HNk.out ⟨some ⟨b1, o1, none⟩, z1, some ⟨b2, o2, none⟩, z2, some ⟨b3, o3, none⟩, z3, some ⟨b4, o4, none⟩, z4⟩ _) ).mono ?_; rintro e w' ⟨u, rfl, hb, hO⟩; obtain ⟨pu, cu, rfl⟩ := OI.shape hO; (try simp only [World.size_alloc, World.size_setCell, World.size_drew, World.drewN] at hO); obtain ⟨hT, hk⟩ := bv_next hb (by (repeat (with_reducible first | assumption | apply Trk.alloc | apply Trk.setCell | apply Trk.drewN | apply Trk.drew | exact Trk.nil _))); simp only [SameOn, World.size_alloc, World.size_setCell, World.size_drew, size_drewN', and_true] at hk; have hsz := Below.size hb; (try simp only [World.size_alloc, World.size_setCell, World.size_drew, size_drewN'] at hsz)))
    obtain ⟨_, _, hq, hc1, hc2, HVv⟩ := IS_view hO.fs
    cases hq
    have HVm := Lib.hid HVv
    clear hO HVv
    refine wp_named ?_
    intro wn hwn
    have hBn : Below wo.heap.size wo wn := by rw [hwn]; (repeat (first | (with_reducible exact Below.refl _ _) | (with_reducible assumption) | (with_reducible refine below_then ?_ (by assumption)) | (with_reducible refine Below.trans ?_ (by assumption)) | (with_reducible refine below_drewN ?_ _) | (with_reducible apply Below.drew) | (with_reducible refine below_alloc ?_ _) | refine Below.setCell ?_ (by first | (simp; done) | (simp; omega)) _))
    have HVN : Hid (∀ j, j < M.length → ∃ b o, pu = some ⟨b, o, none⟩ ∧ wn.cell? ⟨b, o + j, none⟩ = some (.int .i64 (M.getD j 0))) := by show _; rw [hwn]; exact HVm.out
    clear hwn hb hk hsz HVm
    go_loopw [7, 9, 26] (fun s _ t wr => ∃ (j : Nat), j ≤ M.length ∧ t = .int .i64 j ∧ s = .int .i64 (bestL P x (M.take j)) ∧ Below wn.heap.size wn wr) (fun _ _ t _ => M.length - (intOf t).toNat)
    case atStart => exact ⟨0, by omega, rfl, by rw [HB0.out], Below.refl _ _⟩
    case round =>
      obtain ⟨j, hj, rfl, rfl, hbi⟩ := hrel
      have hbx : Below wo.heap.size wo wr := below_then hBn hbi
      have hszx : wo.heap.size ≤ wr.heap.size := hbx.size
      have hszn : w.heap.size ≠ wr.heap.size := by omega
      have hszm : wr.heap.size ≠ w.heap.size := by omega
      have hszl : w.heap.size < wr.heap.size := by omega
      obtain ⟨g0, g1, g2, g3, g4, g5⟩ := PlAt.later HAT.out hbx (by omega)
      simp only [Nat.zero_add] at g0 g1 g2 g3 g4 g5
      by_cases hjl : j < M.length
      · obtain ⟨mb, mo, rfl, hcell0⟩ := HVN.out j hjl
        have hcell := cell_later hbi hcell0
        have HST := Lib.hid (HBS.out j hjl)
        have hy := HMC.out j hjl
        have hbc := Pl.cell_iff (HBC.out j)
        generalize M.getD j 0 = y at hcell hcell0 HST hy
        generalize bestL P x (M.take j) = bb at HST hbc
        obtain ⟨ym, rfl⟩ := Int.eq_ofNat_of_zero_le hy.1
        obtain ⟨bm, rfl⟩ := Int.eq_ofNat_of_zero_le hbc.1
        have hya : ym < P.a.length := by omega
        have hba : bm < P.a.length := by omega
        have cy := cell_later (below_then hB hbx) (HA.out ym hya)
        have cb := cell_later (below_then hB hbx) (HA.out bm hba)
        have HXX : Hid (aE P (ym : Int) = cn .f32 (P.a.getD ym 0) ∧ aE P (bm : Int) = cn .f32 (P.a.getD bm 0)) := ⟨rfl, rfl⟩
        have HST2 : Hid (bestL P x (M.take (j + 1)) = if flt .f32 (cn .f32 (P.a.getD ym 0)) (cn .f32 (P.a.getD bm 0)) = true then (ym : Int) else bm) := by show _ = _; rw [HST.out, HXX.out.1, HXX.out.2]
        generalize P.a.getD ym 0 = u at cy HST2
        generalize P.a.getD bm 0 = v at cb HST2
        clear HST HXX hcell0 HVN HA HB HC HD HBS HBC HMC hy hbc HB0 HBE
        rcases f1 : flt .f32 (cn .f32 u) (cn .f32 v)
        all_goals
          rw [f1] at HST2
          go_wp2_with (first | (with_reducible refine at_list ?_; refine wpList_fop rfl rfl rfl rfl rfl ?_; intro r n hr0; have hr := hr0 _ _ (by first | with_reducible assumption | exact rfl) (by first | with_reducible assumption | exact rfl); clear hr0) | (with_reducible refine at_list ?_; refine wpList_neg rfl rfl rfl ?_; intro r hr0; have hr := hr0 _ (by first | with_reducible assumption | exact rfl); clear hr0) | (with_reducible refine at_list ?_; refine wpList_fop_g rfl rfl rfl rfl rfl ?_; intro r n hr0; have hr := hr0 _ _ (by first | with_reducible assumption | exact rfl) (by first | with_reducible assumption | exact rfl); clear hr0) | (with_reducible refine at_list ?_; refine wpList_wide_g rfl rfl Try.underlying26 Try.underlying54 rfl ?_; intro r n hr0; have hr := hr0 _ (by first | with_reducible assumption | exact rfl); clear hr0) | (with_reducible refine at_list ?_; refine wpList_wide rfl rfl rfl Try.underlying26 Try.underlying54 ?_; intro r n hr0; have hr := hr0 _ (by first | with_reducible assumption | exact rfl); clear hr0) | (go_at_call 36; refine (implValidPlate_any _ _ _ (by assumption)).mono ?_; rintro e w' ⟨rfl, hb⟩; obtain ⟨hT, hk⟩ := bv_next hb (by (repeat (with_reducible first | assumption | apply Trk.alloc | apply Trk.setCell | apply Trk.drewN | apply Trk.drew | exact Trk.nil _))); simp only [SameOn, World.size_alloc, World.size_setCell, World.size_drew, size_drewN', and_true] at hk; have hsz := Below.size hb; (try simp only [World.size_alloc, World.size_setCell, World.size_drew, size_drewN'] at hsz)) | (go_at_call 47; refine (isCell_any _ _ _ _ (by assumption)).mono ?_; rintro e w' ⟨rfl, hb⟩; obtain ⟨hT, hk⟩ := bv_next hb (by (repeat (with_reducible first | assumption | apply Trk.alloc | apply Trk.setCell | apply Trk.drewN | apply Trk.drew | exact Trk.nil _))); simp only [SameOn, World.size_alloc, World.size_setCell, World.size_drew, size_drewN', and_true] at hk; have hsz := Below.size hb; (try simp only [World.size_alloc, World.size_setCell, World.size_drew, size_drewN'] at hsz)) | (go_at_call 38; refine (neighbours_any _ _ _ _ (by omega) (by omega) (by omega)).mono ?_; rintro e w' ⟨u, rfl, hb, hO⟩; obtain ⟨pu, cu, rfl⟩ := OI.shape hO; (try simp only [World.size_alloc, World.size_setCell, World.size_drew, World.drewN] at hO); obtain ⟨hT, hk⟩ := bv_next hb (by (repeat (with_reducible first | assumption | apply Trk.alloc | apply Trk.setCell | apply Trk.drewN | apply Trk.drew | exact Trk.nil _))); simp only [SameOn, World.size_alloc, World.size_setCell, World.size_drew, size_drewN', and_true] at hk; have hsz := Below.size hb; (try simp only [World.size_alloc, World.size_setCell, World.size_drew, size_drewN'] at hsz)))
          (refine wp_some_lit (by kernel_rfl) (by kernel_rfl) ?_; (refine wpSome_one ?_; go_big_quiet_step (fail); refine wpQuiet_nil ?_); (refine wpSome_one ?_; go_big_quiet_step (fail); refine wpQuiet_nil ?_); (refine wpSome_one ?_; go_big_quiet_step (fail); refine wpQuiet_nil ?_); (refine wpSome_one ?_; go_big_quiet_step (fail); refine wpQuiet_nil ?_); (refine wpSome_one ?_; go_big_quiet_step (fail); refine wpQuiet_nil ?_); (refine wpSome_one ?_; go_big_quiet_step (fail); refine wpQuiet_nil ?_); (refine wpSome_one ?_; go_big_quiet_step (fail); refine wpQuiet_nil ?_); (refine wpSome_one ?_; go_big_quiet_step (fail); refine wpQuiet_nil ?_); (refine wpSome_one ?_; go_big_quiet_step (fail); refine wpQuiet_nil ?_); (refine wpSome_one ?_; go_big_quiet_step (fail); refine wpQuiet_nil ?_); (refine wpSome_one ?_; go_big_quiet_step (fail); refine wpQuiet_nil ?_); refine wpSome_nil ?_; intro w' hw'; obtain ⟨nq, rfl⟩ := hw')
          go_wp2_with (first | (with_reducible refine at_list ?_; refine wpList_fop rfl rfl rfl rfl rfl ?_; intro r n hr0; have hr := hr0 _ _ (by first | with_reducible assumption | exact rfl) (by first | with_reducible assumption | exact rfl); clear hr0) | (with_reducible refine at_list ?_; refine wpList_neg rfl rfl rfl ?_; intro r hr0; have hr := hr0 _ (by first | with_reducible assumption | exact rfl); clear hr0) | (with_reducible refine at_list ?_; refine wpList_fop_g rfl rfl rfl rfl rfl ?_; intro r n hr0; have hr := hr0 _ _ (by first | with_reducible assumption | exact rfl) (by first | with_reducible assumption | exact rfl); clear hr0) | (with_reducible refine at_list ?_; refine wpList_wide_g rfl rfl Try.underlying26 Try.underlying54 rfl ?_; intro r n hr0; have hr := hr0 _ (by first | with_reducible assumption | exact rfl); clear hr0) | (with_reducible refine at_list ?_; refine wpList_wide rfl rfl rfl Try.underlying26 Try.underlying54 ?_; intro r n hr0; have hr := hr0 _ (by first | with_reducible assumption | exact rfl); clear hr0) | (go_at_call 36; refine (implValidPlate_any _ _ _ (by assumption)).mono ?_; rintro e w' ⟨rfl, hb⟩; obtain ⟨hT, hk⟩ := bv_next hb (by (repeat (with_reducible first | assumption | apply Trk.alloc | apply Trk.setCell | apply Trk.drewN | apply Trk.drew | exact Trk.nil _))); simp only [SameOn, World.size_alloc, World.size_setCell, World.size_drew, size_drewN', and_true] at hk; have hsz := Below.size hb; (try simp only [World.size_alloc, World.size_setCell, World.size_drew, size_drewN'] at hsz)) | (go_at_call 47; refine (isCell_any _ _ _ _ (by assumption)).mono ?_; rintro e w' ⟨rfl, hb⟩; obtain ⟨hT, hk⟩ := bv_next hb (by (repeat (with_reducible first | assumption | apply Trk.alloc | apply Trk.setCell | apply Trk.drewN | apply Trk.drew | exact Trk.nil _))); simp only [SameOn, World.size_alloc, World.size_setCell, World.size_drew, size_drewN', and_true] at hk; have hsz := Below.size hb; (try simp only [World.size_alloc, World.size_setCell, World.size_drew, size_drewN'] at hsz)) | (go_at_call 38; refine (neighbours_any _ _ _ _ (by omega) (by omega) (by omega)).mono ?_; rintro e w' ⟨u, rfl, hb, hO⟩; obtain ⟨pu, cu, rfl⟩ := OI.shape hO; (try simp only [World.size_alloc, World.size_setCell, World.size_drew, World.drewN] at hO); obtain ⟨hT, hk⟩ := bv_next hb (by (repeat (with_reducible first | assumption | apply Trk.alloc | apply Trk.setCell | apply Trk.drewN | apply Trk.drew | exact Trk.nil _))); simp only [SameOn, World.size_alloc, World.size_setCell, World.size_drew, size_drewN', and_true] at hk; have hsz := Below.size hb; (try simp only [World.size_alloc, World.size_setCell, World.size_drew, size_drewN'] at hsz)))
          go_roundw
          case rel => exact ⟨j + 1, by omega, by go_num, by rw [HST2.out]; rfl, by (repeat (first | (with_reducible exact Below.refl _ _) | (with_reducible assumption) | (with_reducible refine below_then ?_ (by assumption)) | (with_reducible refine Below.trans ?_ (by assumption)) | (with_reducible refine below_drewN ?_ _) | (with_reducible apply Below.drew) | (with_reducible refine below_alloc ?_ _) | refine Below.setCell ?_ (by first | (simp; done) | (simp; omega)) _))⟩
          case measure => simp [intOf]; omega
      · have hje : j = M.length := by omega
        have HBB : Hid (bestL P x (M.take j) = best P x) := by show _ = _; rw [HBE.out, hje, List.take_length]
        have hbc := HBC.out j
        rw [HBB.out] at hbc ⊢
        clear HVN HBS HBC HMC HB0 HBE HBB
        rcases HP.out.next with ⟨e1, e2⟩ | ⟨e1, R', e2, e3⟩
        · have e4 : (best P x == x) = true := by rw [e1]; exact beq_self_eq_true x
          have HE2 : Hid (E = A) := by show _ = _; rw [HE.out, e2, List.append_nil]
          clear e1 e2
          go_wp2_with (first | (with_reducible refine at_list ?_; refine wpList_fop rfl rfl rfl rfl rfl ?_; intro r n hr0; have hr := hr0 _ _ (by first | with_reducible assumption | exact rfl) (by first | with_reducible assumption | exact rfl); clear hr0) | (with_reducible refine at_list ?_; refine wpList_neg rfl rfl rfl ?_; intro r hr0; have hr := hr0 _ (by first | with_reducible assumption | exact rfl); clear hr0) | (with_reducible refine at_list ?_; refine wpList_fop_g rfl rfl rfl rfl rfl ?_; intro r n hr0; have hr := hr0 _ _ (by first | with_reducible assumption | exact rfl) (by first | with_reducible assumption | exact rfl); clear hr0) | (with_reducible refine at_list ?_; refine wpList_wide_g rfl rfl Try.underlying26 Try.underlying54 rfl ?_; intro r n hr0; have hr := hr0 _ (by first | with_reducible assumption | exact rfl); clear hr0) | (with_reducible refine at_list ?_; refine wpList_wide rfl rfl rfl Try.underlying26 Try.underlying54 ?_; intro r n hr0; have hr := hr0 _ (by first | with_reducible assumption | exact rfl); clear hr0) | (go_at_call 36; refine (implValidPlate_any _ _ _ (by assumption)).mono ?_; rintro e w' ⟨rfl, hb⟩; obtain ⟨hT, hk⟩ := bv_next hb (by (repeat (with_reducible first | assumption | apply Trk.alloc | apply Trk.setCell | apply Trk.drewN | apply Trk.drew | exact Trk.nil _))); simp only [SameOn, World.size_alloc, World.size_setCell, World.size_drew, size_drewN', and_true] at hk; have hsz := Below.size hb; (try simp only [World.size_alloc, World.size_setCell, World.size_drew, size_drewN'] at hsz)) | (go_at_call 47; refine (isCell_any _ _ _ _ (by assumption)).mono ?_; rintro e w' ⟨rfl, hb⟩; obtain ⟨hT, hk⟩ := bv_next hb (by (repeat (with_reducible first | assumption | apply Trk.alloc | apply Trk.setCell | apply Trk.drewN | apply Trk.drew | exact Trk.nil _))); simp only [SameOn, World.size_alloc, World.size_setCell, World.size_drew, size_drewN', and_true] at hk; have hsz := Below.size hb; (try simp only [World.size_alloc, World.size_setCell, World.size_drew, size_drewN'] at hsz)) | (go_at_call 38; refine (neighbours_any _ _ _ _ (by omega) (by omega) (by omega)).mono ?_; rintro e w' ⟨u, rfl, hb, hO⟩; obtain ⟨pu, cu, rfl⟩ := OI.shape hO; (try simp only [World.size_alloc, World.size_setCell, World.size_drew, World.drewN] at hO); obtain ⟨hT, hk⟩ := bv_next hb (by (repeat (with_reducible first | assumption | apply Trk.alloc | apply Trk.setCell | apply Trk.drewN | apply Trk.drew | exact Trk.nil _))); simp only [SameOn, World.size_alloc, World.size_setCell, World.size_drew, size_drewN', and_true] at hk; have hsz := Below.size hb; (try simp only [World.size_alloc, World.size_setCell, World.size_drew, size_drewN'] at hsz)))
          go_ret2
          exact ⟨_, by rw [HR.out.1]; rfl, by (repeat (first | (with_reducible exact Below.refl _ _) | (with_reducible assumption) | (with_reducible refine below_then ?_ (by assumption)) | (with_reducible refine Below.trans ?_ (by assumption)) | (with_reducible refine below_drewN ?_ _) | (with_reducible apply Below.drew) | (with_reducible refine below_alloc ?_ _) | refine Below.setCell ?_ (by first | (simp; done) | (simp; omega)) _)), by rw [HE2.out]; exact (HO.out.later hbx).base (by omega)⟩
        · have e4 : (best P x == x) = false := beq_eq_false_iff_ne.2 e1
          have HE2 : Hid (E = (A ++ [best P x]) ++ R') := by show _ = _; rw [HE.out, e2]; simp
          have hAl : A.length < E.length := by rw [HE2.out]; first | (simp; done) | (simp; omega)
          have HE3 := Lib.hid e3
          have HBC2 := Lib.hid hbc
          clear e1 e2 e3 hbc
          generalize best P x = y at e4 HE2 HE3 HBC2
          go_wp2_with (first | (with_reducible refine at_list ?_; refine wpList_fop rfl rfl rfl rfl rfl ?_; intro r n hr0; have hr := hr0 _ _ (by first | with_reducible assumption | exact rfl) (by first | with_reducible assumption | exact rfl); clear hr0) | (with_reducible refine at_list ?_; refine wpList_neg rfl rfl rfl ?_; intro r hr0; have hr := hr0 _ (by first | with_reducible assumption | exact rfl); clear hr0) | (with_reducible refine at_list ?_; refine wpList_fop_g rfl rfl rfl rfl rfl ?_; intro r n hr0; have hr := hr0 _ _ (by first | with_reducible assumption | exact rfl) (by first | with_reducible assumption | exact rfl); clear hr0) | (with_reducible refine at_list ?_; refine wpList_wide_g rfl rfl Try.underlying26 Try.underlying54 rfl ?_; intro r n hr0; have hr := hr0 _ (by first | with_reducible assumption | exact rfl); clear hr0) | (with_reducible refine at_list ?_; refine wpList_wide rfl rfl rfl Try.underlying26 Try.underlying54 ?_; intro r n hr0; have hr := hr0 _ (by first | with_reducible assumption | exact rfl); clear hr0) | (at_builtin; refine stop_here ?_) | (go_at_call 36; refine (implValidPlate_any _ _ _ (by assumption)).mono ?_; rintro e w' ⟨rfl, hb⟩; obtain ⟨hT, hk⟩ := bv_next hb (by (repeat (with_reducible first | assumption | apply Trk.alloc | apply Trk.setCell | apply Trk.drewN | apply Trk.drew | exact Trk.nil _))); simp only [SameOn, World.size_alloc, World.size_setCell, World.size_drew, size_drewN', and_true] at hk; have hsz := Below.size hb; (try simp only [World.size_alloc, World.size_setCell, World.size_drew, size_drewN'] at hsz)) | (go_at_call 47; refine (isCell_any _ _ _ _ (by assumption)).mono ?_; rintro e w' ⟨rfl, hb⟩; obtain ⟨hT, hk⟩ := bv_next hb (by (repeat (with_reducible first | assumption | apply Trk.alloc | apply Trk.setCell | apply Trk.drewN | apply Trk.drew | exact Trk.nil _))); simp only [SameOn, World.size_alloc, World.size_setCell, World.size_drew, size_drewN', and_true] at hk; have hsz := Below.size hb; (try simp only [World.size_alloc, World.size_setCell, World.size_drew, size_drewN'] at hsz)) | (go_at_call 38; refine (neighbours_any _ _ _ _ (by omega) (by omega) (by omega)).mono ?_; rintro e w' ⟨u, rfl, hb, hO⟩; obtain ⟨pu, cu, rfl⟩ := OI.shape hO; (try simp only [World.size_alloc, World.size_setCell, World.size_drew, World.drewN] at hO); obtain ⟨hT, hk⟩ := bv_next hb (by (repeat (with_reducible first | assumption | apply Trk.alloc | apply Trk.setCell | apply Trk.drewN | apply Trk.drew | exact Trk.nil _))); simp only [SameOn, World.size_alloc, World.size_setCell, World.size_drew, size_drewN', and_true] at hk; have hsz := Below.size hb; (try simp only [World.size_alloc, World.size_setCell, World.size_drew, size_drewN'] at hsz)))
          unfold Stop
          apply wpList_appI (B := w.heap.size + 1) (xs := A) (v := .slice q A.length c)
          case hg => rfl
          case ho => rfl
          case hs => rfl
          case hx => rfl
          case hO => (first | exact (HO.out.later hbx).alloc _ | exact ((HO.out.later hbx).drewN _).alloc _)
          case hc => go_simp <;> exact rfl
          case hn => omega
          case hB => simp; omega
          intro q2 c2 w2 hO2 hB2
          have hw2 : w.heap.size + 1 ≤ w2.heap.size := by have := hB2.size; simp at this; omega
          have hB3 := Below.trans (B := w.heap.size) (a := w) (by (repeat (first | (with_reducible exact Below.refl _ _) | (with_reducible assumption) | (with_reducible refine below_then ?_ (by assumption)) | (with_reducible refine Below.trans ?_ (by assumption)) | (with_reducible refine below_drewN ?_ _) | (with_reducible apply Below.drew) | (with_reducible refine below_alloc ?_ _) | refine Below.setCell ?_ (by first | (simp; done) | (simp; omega)) _))) (hB2.mono (by omega))
          have hat2 := PlAt.later (P := P) (l := ⟨some ⟨b1, o1, none⟩, z1, some ⟨b2, o2, none⟩, z2, some ⟨b3, o3, none⟩, z3, some ⟨b4, o4, none⟩, z4⟩) (b := w.heap.size) (o := 0) (by unfold PlAt; refine ⟨?_, ?_, ?_, ?_, ?_, ?_⟩ <;> go_simp) hB2 (by omega)
          have HB3 := Lib.hid hB3
          have HAT2 := Lib.hid hat2
          have HO2 := Lib.hid hO2
          clear hat2 hB3 hB2 hO2
          go_wp2
          go_roundw
          case rel => exact ⟨y, c2, q2, A ++ [y], R', rfl, by simp, HBC2.out, HE2.out, HE3.out, by show OI _ _ _ _; have := HO2.out; simpa using this, HB3.out, hw2, HAT2.out⟩
          case measure => simp [lenOf]; omega
def nbT (xs : List Int) (j : Nat) : List Int := (xs.take j).filter fun k => !decide (k < 0)
theorem nbT_step (xs : List Int) {j : Nat} (h : j < xs.length) : nbT xs (j + 1) = nbT xs j ++ (if (!decide (xs.getD j 0 < 0)) = true then [xs.getD j 0] else []) := take_filter _ _ h
theorem bestT_skip (P : Pl) (i : Int) (xs : List Int) {j : Nat} (h : j < xs.length) (hn : xs.getD j 0 < 0) : bestL P i (nbT xs (j + 1)) = bestL P i (nbT xs j) := by
  rw [nbT_step xs h, if_neg (by rw [decide_eq_true hn]; decide), List.append_nil]
theorem bestT_next (P : Pl) (i : Int) (xs : List Int) {j : Nat} (h : j < xs.length) (hn : 0 ≤ xs.getD j 0) : bestL P i (nbT xs (j + 1)) = if flt .f32 (aE P (xs.getD j 0)) (aE P (bestL P i (nbT xs j))) = true then xs.getD j 0 else bestL P i (nbT xs j) := by
  rw [nbT_step xs h, if_pos (by rw [decide_eq_false (Int.not_lt.2 hn)]; rfl), bestL_snoc]
theorem nbT_four (W H i : Int) : nbT (nbs W H i) 4 = nbl W H i := by unfold nbT nbl; rw [List.take_of_length_le (by rw [show (nbs W H i).length = 4 from rfl]; omega)]
theorem nbT_sub (W H i : Int) (j : Nat) : ∀ k ∈ nbT (nbs W H i) j, k ∈ nbl W H i := fun k hk => by
  unfold nbT at hk
  unfold nbl
  rw [List.mem_filter] at hk ⊢
  exact ⟨List.mem_of_mem_take hk.1, hk.2⟩
theorem nbs_fit2 (W H i : Int) {k : Nat} (h : k < 4) (hn : 0 ≤ (nbs W H i).getD k 0) : 0 ≤ (nbs W H i).getD k 0 ∧ (nbs W H i).getD k 0 ≤ W * H - 1 := by
  have : (nbs W H i).getD k 0 ∈ nbl W H i := by
    unfold nbl
    rw [List.mem_filter]
    refine ⟨?_, by rw [decide_eq_false (Int.not_lt.2 hn)]; rfl⟩
    rw [List.getD_eq_getElem?_getD, List.getElem?_eq_getElem (by rw [show (nbs W H i).length = 4 from rfl]; exact h)]
    exact List.getElem_mem _
  exact nbl_cell this
set_option maxHeartbeats 8000000 in
theorem specCoolPath_any (P : Pl) (l : Lay) (i : Int) (w : World) (E : List Int) (b : Bool) (hR : coolR P i E b) (hs : P.fs w l) : Calls Try.prog 18 #[.agg #[.int .i64 P.W, .int .i64 P.H, .slice l.p1 P.a.length l.c1, .slice l.p2 P.b.length l.c2, .slice l.p3 P.c.length l.c3, .slice l.p4 P.d.length l.c4], .int .i64 i] w (BIB w E b) := by
  have HS := Lib.hid hs
  clear hs
  have HV := Lib.hid (fun b o w h1 h2 => l04Has_any P l i b o w h1 h2)
  rcases h01 : (P.ok && P.cell i)
  · rw [h01] at HV
    have HE : Hid (b = false ∧ E = []) := by
      rcases hR with ⟨h1, h2, _⟩ | ⟨_, h, _⟩
      · exact ⟨h1, h2⟩
      · rw [h.1, h.2] at h01; cases h01
    clear hR
    go_enter Try.func18, Try.ntmps18
    go_wp2_with (first | (with_reducible refine at_list ?_; refine wpList_fop rfl rfl rfl rfl rfl ?_; intro r n hr0; have hr := hr0 _ _ (by first | with_reducible assumption | exact rfl) (by first | with_reducible assumption | exact rfl); clear hr0) | (with_reducible refine at_list ?_; refine wpList_neg rfl rfl rfl ?_; intro r hr0; have hr := hr0 _ (by first | with_reducible assumption | exact rfl); clear hr0) | (with_reducible refine at_list ?_; refine wpList_fop_g rfl rfl rfl rfl rfl ?_; intro r n hr0; have hr := hr0 _ _ (by first | with_reducible assumption | exact rfl) (by first | with_reducible assumption | exact rfl); clear hr0) | (with_reducible refine at_list ?_; refine wpList_wide_g rfl rfl Try.underlying26 Try.underlying54 rfl ?_; intro r n hr0; have hr := hr0 _ (by first | with_reducible assumption | exact rfl); clear hr0) | (with_reducible refine at_list ?_; refine wpList_wide rfl rfl rfl Try.underlying26 Try.underlying54 ?_; intro r n hr0; have hr := hr0 _ (by first | with_reducible assumption | exact rfl); clear hr0) | (go_at_call 46; refine ((HV.out _ _ _ (by unfold PlAt; refine ⟨?_, ?_, ?_, ?_, ?_, ?_⟩ <;> go_simp) (HS.out.later (by (repeat (first | (with_reducible exact Below.refl _ _) | (with_reducible assumption) | (with_reducible refine below_then ?_ (by assumption)) | (with_reducible refine Below.trans ?_ (by assumption)) | (with_reducible refine below_drewN ?_ _) | (with_reducible apply Below.drew) | (with_reducible refine below_alloc ?_ _) | refine Below.setCell ?_ (by first | (simp; done) | (simp; omega)) _))))) ).mono ?_; rintro e w' ⟨rfl, n, rfl⟩) | (go_at_call 41; refine (l04Near_any _ _ _ _ _ _ (by assumption) (by omega) (by omega) (by omega)).mono ?_; rintro e w' ⟨u, rfl, hb, hO⟩; obtain ⟨pu, cu, rfl⟩ := OI.shape hO; (try simp only [World.size_alloc, World.size_setCell, World.size_drew, World.drewN] at hO); obtain ⟨hT, hk⟩ := bv_next hb (by (repeat (with_reducible first | assumption | apply Trk.alloc | apply Trk.setCell | apply Trk.drewN | apply Trk.drew | exact Trk.nil _))); simp only [SameOn, World.size_alloc, World.size_setCell, World.size_drew, size_drewN', and_true] at hk; have hsz := Below.size hb; (try simp only [World.size_alloc, World.size_setCell, World.size_drew, size_drewN'] at hsz)))
    all_goals
      go_ret2
      exact ⟨_, by rw [HE.out.1]; rfl, by (repeat (first | (with_reducible exact Below.refl _ _) | (with_reducible assumption) | (with_reducible refine below_then ?_ (by assumption)) | (with_reducible refine Below.trans ?_ (by assumption)) | (with_reducible refine below_drewN ?_ _) | (with_reducible apply Below.drew) | (with_reducible refine below_alloc ?_ _) | refine Below.setCell ?_ (by first | (simp; done) | (simp; omega)) _)), by rw [HE.out.2]; exact OI.nil0 _ _⟩
  rw [h01] at HV
  have h0 : P.ok = true := by rw [Bool.and_eq_true] at h01; exact h01.1
  have h1 : P.cell i = true := by rw [Bool.and_eq_true] at h01; exact h01.2
  clear h01
  have HR : Hid (b = true ∧ Path P i E ∧ E.length ≤ 1000) := by
    rcases hR with ⟨_, _, h⟩ | ⟨h, _, h2⟩
    · rw [h0, h1] at h; cases h
    · exact ⟨h, h2⟩
  have HCI := Lib.hid h1
  clear hR
  have HN0 := Lib.hid (fun (x : Int) (hx : P.cell x = true) l b o w ha => l04Near_any P l x b o w ha (Pl.ok_len h0).1 (Pl.ok_len h0).2.1 (Pl.cell_iff hx))
  obtain ⟨hW, hH, hla, hlb, hlc, hld⟩ := Pl.ok_len h0
  obtain ⟨b1, o1, z1, b2, o2, z2, b3, o3, z3, b4, o4, z4, rfl, ⟨⟨hz1, hz1'⟩, ⟨hz2, hz2'⟩, ⟨hz3, hz3'⟩, hz4, hz4'⟩, HA, HB, HC, HD⟩ := Pl.view HS.out h0
  have HLB : Hid (P.b.length = P.a.length) := by show _ = _; omega
  have HLC : Hid (P.c.length = P.a.length) := by show _ = _; omega
  have HLD : Hid (P.d.length = P.a.length) := by show _ = _; omega
  have HLA : Hid ((P.a.length : Int) = P.W * P.H) := hla
  (try dsimp only)
  clear hla hlb hlc hld
  obtain ⟨hn1, hn2⟩ := Pl.ok_n h0
  have hla := HLA.out
  have hlE := HR.out.2.2
  have H0 := Lib.hid h0
  go_enter Try.func18, Try.ntmps18
  go_wp2_with (first | (with_reducible refine at_list ?_; refine wpList_fop rfl rfl rfl rfl rfl ?_; intro r n hr0; have hr := hr0 _ _ (by first | with_reducible assumption | exact rfl) (by first | with_reducible assumption | exact rfl); clear hr0) | (with_reducible refine at_list ?_; refine wpList_neg rfl rfl rfl ?_; intro r hr0; have hr := hr0 _ (by first | with_reducible assumption | exact rfl); clear hr0) | (with_reducible refine at_list ?_; refine wpList_fop_g rfl rfl rfl rfl rfl ?_; intro r n hr0; have hr := hr0 _ _ (by first | with_reducible assumption | exact rfl) (by first | with_reducible assumption | exact rfl); clear hr0) | (with_reducible refine at_list ?_; refine wpList_wide_g rfl rfl Try.underlying26 Try.underlying54 rfl ?_; intro r n hr0; have hr := hr0 _ (by first | with_reducible assumption | exact rfl); clear hr0) | (with_reducible refine at_list ?_; refine wpList_wide rfl rfl rfl Try.underlying26 Try.underlying54 ?_; intro r n hr0; have hr := hr0 _ (by first | with_reducible assumption | exact rfl); clear hr0) | (go_at_call 46; refine ((HV.out _ _ _ (by unfold PlAt; refine ⟨?_, ?_, ?_, ?_, ?_, ?_⟩ <;> go_simp) (HS.out.later (by (repeat (first | (with_reducible exact Below.refl _ _) | (with_reducible assumption) | (with_reducible refine below_then ?_ (by assumption)) | (with_reducible refine Below.trans ?_ (by assumption)) | (with_reducible refine below_drewN ?_ _) | (with_reducible apply Below.drew) | (with_reducible refine below_alloc ?_ _) | refine Below.setCell ?_ (by first | (simp; done) | (simp; omega)) _))))) ).mono ?_; rintro e w' ⟨rfl, n, rfl⟩) | (go_at_call 41; refine (l04Near_any _ _ _ _ _ _ (by assumption) (by omega) (by omega) (by omega)).mono ?_; rintro e w' ⟨u, rfl, hb, hO⟩; obtain ⟨pu, cu, rfl⟩ := OI.shape hO; (try simp only [World.size_alloc, World.size_setCell, World.size_drew, World.drewN] at hO); obtain ⟨hT, hk⟩ := bv_next hb (by (repeat (with_reducible first | assumption | apply Trk.alloc | apply Trk.setCell | apply Trk.drewN | apply Trk.drew | exact Trk.nil _))); simp only [SameOn, World.size_alloc, World.size_setCell, World.size_drew, size_drewN', and_true] at hk; have hsz := Below.size hb; (try simp only [World.size_alloc, World.size_setCell, World.size_drew, size_drewN'] at hsz)))
  refine wp_named ?_
  intro ws hws
  have hBs : Below w.heap.size w ws := by rw [hws]; (repeat (first | (with_reducible exact Below.refl _ _) | (with_reducible assumption) | (with_reducible refine below_then ?_ (by assumption)) | (with_reducible refine Below.trans ?_ (by assumption)) | (with_reducible refine below_drewN ?_ _) | (with_reducible apply Below.drew) | (with_reducible refine below_alloc ?_ _) | refine Below.setCell ?_ (by first | (simp; done) | (simp; omega)) _))
  have hzs : w.heap.size + 1 ≤ ws.heap.size := by rw [hws]; first | omega | (simp; done) | (simp; omega)
  have hat : PlAt P ⟨some ⟨b1, o1, none⟩, z1, some ⟨b2, o2, none⟩, z2, some ⟨b3, o3, none⟩, z3, some ⟨b4, o4, none⟩, z4⟩ ws w.heap.size 0 := by rw [hws]; exact (by unfold PlAt; refine ⟨?_, ?_, ?_, ?_, ?_, ?_⟩ <;> go_simp)
  have HO00 : Hid (OI (w.heap.size + 1) ws (.slice (some ⟨w.heap.size + 1, 0, none⟩) 1 1) [i]) := by rw [hws]; first | exact OI.litn _ (w.heap.size + 1) _ 1 [i] rfl (by simp) (by omega) (by simp) | exact (OI.litn _ (w.heap.size + 1) _ 1 [i] rfl (by simp) (by omega) (by simp)).drewN _
  clear hws
  go_loopw [1, 6, 7, 8, 9] (fun t s _ _ _ wr => ∃ (x : Int) (c : Nat) (q : Option Addr) (A R : List Int), t = .int .i64 x ∧ s = .slice q A.length c ∧ Hid (P.cell x = true) ∧ Hid (E = A ++ R) ∧ Hid (Path P x (x :: R)) ∧ Hid (OI (w.heap.size + 1) wr (.slice q A.length c) A) ∧ Below w.heap.size w wr ∧ w.heap.size + 1 ≤ wr.heap.size ∧ Hid (PlAt P ⟨some ⟨b1, o1, none⟩, z1, some ⟨b2, o2, none⟩, z2, some ⟨b3, o3, none⟩, z3, some ⟨b4, o4, none⟩, z4⟩ wr w.heap.size 0)) (fun _ s _ _ _ _ => E.length - lenOf s)
  case atStart =>
    obtain ⟨R, hR⟩ := HR.out.2.1.head
    exact ⟨i, 1, some ⟨_, 0, none⟩, [i], R, rfl, rfl, HCI.out, by show _ = _; rw [hR]; rfl, by show Path P i (i :: R); rw [← hR]; exact HR.out.2.1, HO00.out, hBs, hzs, hat⟩
  case round =>
    clear hBs hzs hat HO00
    obtain ⟨x, c, q, A, R, rfl, rfl, HX, HE, HP, HO, hB, hzr, HAT⟩ := hrel
    rename World => wo
    obtain ⟨g0, g1, g2, g3, g4, g5⟩ := HAT.out
    simp only [Nat.zero_add] at g0 g1 g2 g3 g4 g5
    have hT : Trk wo [w.heap.size] := (Trk.nil wo).more (by omega)
    have HNk := Lib.hid (HN0.out x HX.out)
    have HBC : Hid (∀ j, P.cell (bestL P x (nbT (nbs P.W P.H x) j)) = true) := fun j => bestL_cell H0.out HX.out (fun k hk => nbl_cells k (nbT_sub _ _ _ _ k hk))
    have HBS1 := Lib.hid (fun j h hn => bestT_skip P x (nbs P.W P.H x) (j := j) h hn)
    have HBS2 := Lib.hid (fun j h hn => bestT_next P x (nbs P.W P.H x) (j := j) h hn)
    have HBE : Hid (best P x = bestL P x (nbT (nbs P.W P.H x) 4)) := by show _ = _; rw [nbT_four]; rfl
    have HB0 : Hid (bestL P x (nbT (nbs P.W P.H x) 0) = x) := rfl
    have HMC := Lib.hid (fun j h hn => nbs_fit2 P.W P.H x (k := j) h hn)
    have hl4 : (nbs P.W P.H x).length = 4 := rfl
    generalize nbs P.W P.H x = M at HNk HBC HBS1 HBS2 HBE HB0 HMC hl4
    go_wp2_with (first | (with_reducible refine at_list ?_; refine wpList_fop rfl rfl rfl rfl rfl ?_; intro r n hr0; have hr := hr0 _ _ (by first | with_reducible assumption | exact rfl) (by first | with_reducible assumption | exact rfl); clear hr0) | (with_reducible refine at_list ?_; refine wpList_neg rfl rfl rfl ?_; intro r hr0; have hr := hr0 _ (by first | with_reducible assumption | exact rfl); clear hr0) | (with_reducible refine at_list ?_; refine wpList_fop_g rfl rfl rfl rfl rfl ?_; intro r n hr0; have hr := hr0 _ _ (by first | with_reducible assumption | exact rfl) (by first | with_reducible assumption | exact rfl); clear hr0) | (with_reducible refine at_list ?_; refine wpList_wide_g rfl rfl Try.underlying26 Try.underlying54 rfl ?_; intro r n hr0; have hr := hr0 _ (by first | with_reducible assumption | exact rfl); clear hr0) | (with_reducible refine at_list ?_; refine wpList_wide rfl rfl rfl Try.underlying26 Try.underlying54 ?_; intro r n hr0; have hr := hr0 _ (by first | with_reducible assumption | exact rfl); clear hr0) | (go_at_call 41; refine stop_here ?_) | (go_at_call 46; refine (l04Has_any _ _ _ _ _ _ (by assumption) (by assumption)).mono ?_; rintro e w' ⟨rfl, n, rfl⟩) | (go_at_call 41; refine (l04Near_any _ _ _ _ _ _ (by assumption) (by omega) (by omega) (by omega)).mono ?_; rintro e w' ⟨u, rfl, hb, hO⟩; obtain ⟨pu, cu, rfl⟩ := OI.shape hO; (try simp only [World.size_alloc, World.size_setCell, World.size_drew, World.drewN] at hO); obtain ⟨hT, hk⟩ := bv_next hb (by (repeat (with_reducible first | assumption | apply Trk.alloc | apply Trk.setCell | apply Trk.drewN | apply Trk.drew | exact Trk.nil _))); simp only [SameOn, World.size_alloc, World.size_setCell, World.size_drew, size_drewN', and_true] at hk; have hsz := Below.size hb; (try simp only [World.size_alloc, World.size_setCell, World.size_drew, size_drewN'] at hsz)))
    unfold Stop
    refine (HNk.out ⟨some ⟨b1, o1, none⟩, z1, some ⟨b2, o2, none⟩, z2, some ⟨b3, o3, none⟩, z3, some ⟨b4, o4, none⟩, z4⟩ _ _ _ (by unfold PlAt; refine ⟨?_, ?_, ?_, ?_, ?_, ?_⟩ <;> go_simp)).mono ?_
    rintro e w' ⟨u, rfl, hb, hO⟩
    obtain ⟨hT, hk⟩ := bv_next hb (by (repeat (with_reducible first | assumption | apply Trk.alloc | apply Trk.setCell | apply Trk.drewN | apply Trk.drew | exact Trk.nil _))); simp only [SameOn, World.size_alloc, World.size_setCell, World.size_drew, size_drewN', and_true] at hk; have hsz := Below.size hb; (try simp only [World.size_alloc, World.size_setCell, World.size_drew, size_drewN'] at hsz)
    rcases OI.view hO with ⟨h, _⟩ | ⟨gb, gc, h, _, _, hg1, hg2, hv⟩
    · exfalso
      rw [h] at hO
      rcases hO.2 with ⟨_, h0⟩ | ⟨_, _, _, h0, _⟩
      · rw [hl4] at h0; cases h0
      · cases h0
    subst h
    rw [hl4] at hv hg1 ⊢
    unfold maxLen at hg2
    have HVn := Lib.hid hv
    have HL4 := Lib.hid hl4
    clear hv hO hl4
    go_wp2_with (first | (with_reducible refine at_list ?_; refine wpList_fop rfl rfl rfl rfl rfl ?_; intro r n hr0; have hr := hr0 _ _ (by first | with_reducible assumption | exact rfl) (by first | with_reducible assumption | exact rfl); clear hr0) | (with_reducible refine at_list ?_; refine wpList_neg rfl rfl rfl ?_; intro r hr0; have hr := hr0 _ (by first | with_reducible assumption | exact rfl); clear hr0) | (with_reducible refine at_list ?_; refine wpList_fop_g rfl rfl rfl rfl rfl ?_; intro r n hr0; have hr := hr0 _ _ (by first | with_reducible assumption | exact rfl) (by first | with_reducible assumption | exact rfl); clear hr0) | (with_reducible refine at_list ?_; refine wpList_wide_g rfl rfl Try.underlying26 Try.underlying54 rfl ?_; intro r n hr0; have hr := hr0 _ (by first | with_reducible assumption | exact rfl); clear hr0) | (with_reducible refine at_list ?_; refine wpList_wide rfl rfl rfl Try.underlying26 Try.underlying54 ?_; intro r n hr0; have hr := hr0 _ (by first | with_reducible assumption | exact rfl); clear hr0) | (go_at_call 46; refine (l04Has_any _ _ _ _ _ _ (by assumption) (by assumption)).mono ?_; rintro e w' ⟨rfl, n, rfl⟩) | (go_at_call 41; refine (l04Near_any _ _ _ _ _ _ (by assumption) (by omega) (by omega) (by omega)).mono ?_; rintro e w' ⟨u, rfl, hb, hO⟩; obtain ⟨pu, cu, rfl⟩ := OI.shape hO; (try simp only [World.size_alloc, World.size_setCell, World.size_drew, World.drewN] at hO); obtain ⟨hT, hk⟩ := bv_next hb (by (repeat (with_reducible first | assumption | apply Trk.alloc | apply Trk.setCell | apply Trk.drewN | apply Trk.drew | exact Trk.nil _))); simp only [SameOn, World.size_alloc, World.size_setCell, World.size_drew, size_drewN', and_true] at hk; have hsz := Below.size hb; (try simp only [World.size_alloc, World.size_setCell, World.size_drew, size_drewN'] at hsz)))
    refine wp_named ?_
    intro wn hwn
    have hBn : Below wo.heap.size wo wn := by rw [hwn]; (repeat (first | (with_reducible exact Below.refl _ _) | (with_reducible assumption) | (with_reducible refine below_then ?_ (by assumption)) | (with_reducible refine Below.trans ?_ (by assumption)) | (with_reducible refine below_drewN ?_ _) | (with_reducible apply Below.drew) | (with_reducible refine below_alloc ?_ _) | refine Below.setCell ?_ (by first | (simp; done) | (simp; omega)) _))
    have HVN : Hid (∀ j, j < 4 → wn.cell? ⟨gb, j, none⟩ = some (.int .i64 (M.getD j 0))) := fun j hj => by rw [hwn]; exact (HVn.out j hj).1
    clear hwn hb hk hsz HVn
    go_loopw [8, 9] (fun s t wr => ∃ (j : Nat), j ≤ 4 ∧ t = .int .i64 j ∧ s = .int .i64 (bestL P x (nbT M j)) ∧ Below wn.heap.size wn wr) (fun _ t _ => 4 - (intOf t).toNat)
    case atStart => exact ⟨0, by omega, rfl, by rw [HB0.out], Below.refl _ _⟩
    case round =>
      obtain ⟨j, hj, rfl, rfl, hbi⟩ := hrel
      have hbx : Below wo.heap.size wo wr := below_then hBn hbi
      have hszx : wo.heap.size ≤ wr.heap.size := hbx.size
      have hszn : w.heap.size ≠ wr.heap.size := by omega
      have hszm : wr.heap.size ≠ w.heap.size := by omega
      have hszl : w.heap.size < wr.heap.size := by omega
      obtain ⟨g0, g1, g2, g3, g4, g5⟩ := PlAt.later HAT.out hbx (by omega)
      simp only [Nat.zero_add] at g0 g1 g2 g3 g4 g5
      by_cases hjl : j < 4
      · have hcell := cell_later hbi (HVN.out j hjl)
        have HS1 := Lib.hid (HBS1.out j (by rw [HL4.out]; exact hjl))
        have HS2 := Lib.hid (HBS2.out j (by rw [HL4.out]; exact hjl))
        have hy := HMC.out j hjl
        have hbc := Pl.cell_iff (HBC.out j)
        generalize M.getD j 0 = y at hcell HS1 HS2 hy
        generalize bestL P x (nbT M j) = bb at HS1 HS2 hbc
        obtain ⟨bm, rfl⟩ := Int.eq_ofNat_of_zero_le hbc.1
        have hba : bm < P.a.length := by omega
        have cb := cell_later (below_then hB hbx) (HA.out bm hba)
        by_cases hneg : y < 0
        · have hneg2 : decide (0 ≤ y) = false := decide_eq_false (by omega)
          have HST2 := Lib.hid (HS1.out hneg)
          clear HS1 HS2 HVN HA HB HC HD HBS1 HBS2 HBC HMC hy hbc HB0 HBE cb
          go_wp2_with (first | (with_reducible refine at_list ?_; refine wpList_fop rfl rfl rfl rfl rfl ?_; intro r n hr0; have hr := hr0 _ _ (by first | with_reducible assumption | exact rfl) (by first | with_reducible assumption | exact rfl); clear hr0) | (with_reducible refine at_list ?_; refine wpList_neg rfl rfl rfl ?_; intro r hr0; have hr := hr0 _ (by first | with_reducible assumption | exact rfl); clear hr0) | (with_reducible refine at_list ?_; refine wpList_fop_g rfl rfl rfl rfl rfl ?_; intro r n hr0; have hr := hr0 _ _ (by first | with_reducible assumption | exact rfl) (by first | with_reducible assumption | exact rfl); clear hr0) | (with_reducible refine at_list ?_; refine wpList_wide_g rfl rfl Try.underlying26 Try.underlying54 rfl ?_; intro r n hr0; have hr := hr0 _ (by first | with_reducible assumption | exact rfl); clear hr0) | (with_reducible refine at_list ?_; refine wpList_wide rfl rfl rfl Try.underlying26 Try.underlying54 ?_; intro r n hr0; have hr := hr0 _ (by first | with_reducible assumption | exact rfl); clear hr0) | (go_at_call 46; refine (l04Has_any _ _ _ _ _ _ (by assumption) (by assumption)).mono ?_; rintro e w' ⟨rfl, n, rfl⟩) | (go_at_call 41; refine (l04Near_any _ _ _ _ _ _ (by assumption) (by omega) (by omega) (by omega)).mono ?_; rintro e w' ⟨u, rfl, hb, hO⟩; obtain ⟨pu, cu, rfl⟩ := OI.shape hO; (try simp only [World.size_alloc, World.size_setCell, World.size_drew, World.drewN] at hO); obtain ⟨hT, hk⟩ := bv_next hb (by (repeat (with_reducible first | assumption | apply Trk.alloc | apply Trk.setCell | apply Trk.drewN | apply Trk.drew | exact Trk.nil _))); simp only [SameOn, World.size_alloc, World.size_setCell, World.size_drew, size_drewN', and_true] at hk; have hsz := Below.size hb; (try simp only [World.size_alloc, World.size_setCell, World.size_drew, size_drewN'] at hsz)))
          (refine wp_some_lit (by kernel_rfl) (by kernel_rfl) ?_; (refine wpSome_one ?_; go_big_quiet_step (fail); refine wpQuiet_nil ?_); (refine wpSome_one ?_; go_big_quiet_step (fail); refine wpQuiet_nil ?_); (refine wpSome_one ?_; go_big_quiet_step (fail); refine wpQuiet_nil ?_); (refine wpSome_one ?_; go_big_quiet_step (fail); refine wpQuiet_nil ?_); (refine wpSome_one ?_; go_big_quiet_step (fail); refine wpQuiet_nil ?_); (refine wpSome_one ?_; go_big_quiet_step (fail); refine wpQuiet_nil ?_); (first | (refine wpSome_one ?_; go_big_quiet_step (fail); refine wpQuiet_nil ?_) | (refine wpSome_one ?_; go_big_quiet_step (fail); refine wpQuiet_nil ?_)); (first | (refine wpSome_one ?_; go_big_quiet_step (fail); refine wpQuiet_nil ?_) | (refine wpSome_one ?_; go_big_quiet_step (fail); refine wpQuiet_nil ?_)); (first | (refine wpSome_one ?_; go_big_quiet_step (fail); refine wpQuiet_nil ?_) | (refine wpSome_one ?_; go_big_quiet_step (fail); refine wpQuiet_nil ?_)); (first | (refine wpSome_one ?_; go_big_quiet_step (fail); refine wpQuiet_nil ?_) | (refine wpSome_one ?_; go_big_quiet_step (fail); refine wpQuiet_nil ?_)); (first | (refine wpSome_one ?_; go_big_quiet_step (fail); refine wpQuiet_nil ?_) | (refine wpSome_one ?_; go_big_quiet_step (fail); refine wpQuiet_nil ?_)); (first | (refine wpSome_one ?_; go_big_quiet_step (fail); refine wpQuiet_nil ?_) | (refine wpSome_one ?_; go_big_quiet_step (fail); refine wpQuiet_nil ?_)); (first | (refine wpSome_one ?_; go_big_quiet_step (fail); refine wpQuiet_nil ?_) | (refine wpSome_one ?_; go_big_quiet_step (fail); refine wpQuiet_nil ?_)); (first | (refine wpSome_one ?_; go_big_quiet_step (fail); refine wpQuiet_nil ?_) | (refine wpSome_one ?_; go_big_quiet_step (fail); refine wpQuiet_nil ?_)); (first | (refine wpSome_one ?_; go_big_quiet_step (fail); refine wpQuiet_nil ?_) | (refine wpSome_one ?_; go_big_quiet_step (fail); refine wpQuiet_nil ?_)); (first | (refine wpSome_one ?_; go_big_quiet_step (fail); refine wpQuiet_nil ?_) | (refine wpSome_one ?_; go_big_quiet_step (fail); refine wpQuiet_nil ?_)); (first | (refine wpSome_one ?_; go_big_quiet_step (fail); refine wpQuiet_nil ?_) | (refine wpSome_one ?_; go_big_quiet_step (fail); refine wpQuiet_nil ?_)); (first | (refine wpSome_one ?_; go_big_quiet_step (fail); refine wpQuiet_nil ?_) | (refine wpSome_one ?_; go_big_quiet_step (fail); refine wpQuiet_nil ?_)); (first | (refine wpSome_one ?_; go_big_quiet_step (fail); refine wpQuiet_nil ?_) | (refine wpSome_one ?_; go_big_quiet_step (fail); refine wpQuiet_nil ?_)); (first | (refine wpSome_one ?_; go_big_quiet_step (fail); refine wpQuiet_nil ?_) | (refine wpSome_one ?_; go_big_quiet_step (fail); refine wpQuiet_nil ?_)); (refine wpSome_one ?_; go_big_quiet_step (fail); refine wpQuiet_nil ?_); refine wpSome_nil ?_; intro w' hw'; obtain ⟨nq, rfl⟩ := hw')
          go_wp2_with (first | (with_reducible refine at_list ?_; refine wpList_fop rfl rfl rfl rfl rfl ?_; intro r n hr0; have hr := hr0 _ _ (by first | with_reducible assumption | exact rfl) (by first | with_reducible assumption | exact rfl); clear hr0) | (with_reducible refine at_list ?_; refine wpList_neg rfl rfl rfl ?_; intro r hr0; have hr := hr0 _ (by first | with_reducible assumption | exact rfl); clear hr0) | (with_reducible refine at_list ?_; refine wpList_fop_g rfl rfl rfl rfl rfl ?_; intro r n hr0; have hr := hr0 _ _ (by first | with_reducible assumption | exact rfl) (by first | with_reducible assumption | exact rfl); clear hr0) | (with_reducible refine at_list ?_; refine wpList_wide_g rfl rfl Try.underlying26 Try.underlying54 rfl ?_; intro r n hr0; have hr := hr0 _ (by first | with_reducible assumption | exact rfl); clear hr0) | (with_reducible refine at_list ?_; refine wpList_wide rfl rfl rfl Try.underlying26 Try.underlying54 ?_; intro r n hr0; have hr := hr0 _ (by first | with_reducible assumption | exact rfl); clear hr0) | (go_at_call 46; refine (l04Has_any _ _ _ _ _ _ (by assumption) (by assumption)).mono ?_; rintro e w' ⟨rfl, n, rfl⟩) | (go_at_call 41; refine (l04Near_any _ _ _ _ _ _ (by assumption) (by omega) (by omega) (by omega)).mono ?_; rintro e w' ⟨u, rfl, hb, hO⟩; obtain ⟨pu, cu, rfl⟩ := OI.shape hO; (try simp only [World.size_alloc, World.size_setCell, World.size_drew, World.drewN] at hO); obtain ⟨hT, hk⟩ := bv_next hb (by (repeat (with_reducible first | assumption | apply Trk.alloc | apply Trk.setCell | apply Trk.drewN | apply Trk.drew | exact Trk.nil _))); simp only [SameOn, World.size_alloc, World.size_setCell, World.size_drew, size_drewN', and_true] at hk; have hsz := Below.size hb; (try simp only [World.size_alloc, World.size_setCell, World.size_drew, size_drewN'] at hsz)))
          go_roundw
          case rel => exact ⟨j + 1, by omega, by go_num, by rw [HST2.out], by (repeat (first | (with_reducible exact Below.refl _ _) | (with_reducible assumption) | (with_reducible refine below_then ?_ (by assumption)) | (with_reducible refine Below.trans ?_ (by assumption)) | (with_reducible refine below_drewN ?_ _) | (with_reducible apply Below.drew) | (with_reducible refine below_alloc ?_ _) | refine Below.setCell ?_ (by first | (simp; done) | (simp; omega)) _))⟩
          case measure => simp [intOf]; omega
        have hy0 : 0 ≤ y := by omega
        have hy := hy hy0
        obtain ⟨ym, rfl⟩ := Int.eq_ofNat_of_zero_le hy0
        have hya : ym < P.a.length := by omega
        have cy := cell_later (below_then hB hbx) (HA.out ym hya)
        have HXX : Hid (aE P (ym : Int) = cn .f32 (P.a.getD ym 0) ∧ aE P (bm : Int) = cn .f32 (P.a.getD bm 0)) := ⟨rfl, rfl⟩
        have HST2 : Hid (bestL P x (nbT M (j + 1)) = if flt .f32 (cn .f32 (P.a.getD ym 0)) (cn .f32 (P.a.getD bm 0)) = true then (ym : Int) else bm) := by show _ = _; rw [HS2.out hy0, HXX.out.1, HXX.out.2]
        generalize P.a.getD ym 0 = u at cy HST2
        generalize P.a.getD bm 0 = v at cb HST2
        have hdx : decide (0 ≤ (ym : Int)) = true := decide_eq_true (by omega)
        clear HS1 HS2 HXX HVN HA HB HC HD HBS1 HBS2 HBC HMC hy hbc HB0 HBE
        rcases f1 : flt .f32 (cn .f32 u) (cn .f32 v)
        all_goals
          rw [f1] at HST2
          go_wp2_with (first | (with_reducible refine at_list ?_; refine wpList_fop rfl rfl rfl rfl rfl ?_; intro r n hr0; have hr := hr0 _ _ (by first | with_reducible assumption | exact rfl) (by first | with_reducible assumption | exact rfl); clear hr0) | (with_reducible refine at_list ?_; refine wpList_neg rfl rfl rfl ?_; intro r hr0; have hr := hr0 _ (by first | with_reducible assumption | exact rfl); clear hr0) | (with_reducible refine at_list ?_; refine wpList_fop_g rfl rfl rfl rfl rfl ?_; intro r n hr0; have hr := hr0 _ _ (by first | with_reducible assumption | exact rfl) (by first | with_reducible assumption | exact rfl); clear hr0) | (with_reducible refine at_list ?_; refine wpList_wide_g rfl rfl Try.underlying26 Try.underlying54 rfl ?_; intro r n hr0; have hr := hr0 _ (by first | with_reducible assumption | exact rfl); clear hr0) | (with_reducible refine at_list ?_; refine wpList_wide rfl rfl rfl Try.underlying26 Try.underlying54 ?_; intro r n hr0; have hr := hr0 _ (by first | with_reducible assumption | exact rfl); clear hr0) | (go_at_call 46; refine (l04Has_any _ _ _ _ _ _ (by assumption) (by assumption)).mono ?_; rintro e w' ⟨rfl, n, rfl⟩) | (go_at_call 41; refine (l04Near_any _ _ _ _ _ _ (by assumption) (by omega) (by omega) (by omega)).mono ?_; rintro e w' ⟨u, rfl, hb, hO⟩; obtain ⟨pu, cu, rfl⟩ := OI.shape hO; (try simp only [World.size_alloc, World.size_setCell, World.size_drew, World.drewN] at hO); obtain ⟨hT, hk⟩ := bv_next hb (by (repeat (with_reducible first | assumption | apply Trk.alloc | apply Trk.setCell | apply Trk.drewN | apply Trk.drew | exact Trk.nil _))); simp only [SameOn, World.size_alloc, World.size_setCell, World.size_drew, size_drewN', and_true] at hk; have hsz := Below.size hb; (try simp only [World.size_alloc, World.size_setCell, World.size_drew, size_drewN'] at hsz)))
          (refine wp_some_lit (by kernel_rfl) (by kernel_rfl) ?_; (refine wpSome_one ?_; go_big_quiet_step (fail); refine wpQuiet_nil ?_); (refine wpSome_one ?_; go_big_quiet_step (fail); refine wpQuiet_nil ?_); (refine wpSome_one ?_; go_big_quiet_step (fail); refine wpQuiet_nil ?_); (refine wpSome_one ?_; go_big_quiet_step (fail); refine wpQuiet_nil ?_); (refine wpSome_one ?_; go_big_quiet_step (fail); refine wpQuiet_nil ?_); (refine wpSome_one ?_; go_big_quiet_step (fail); refine wpQuiet_nil ?_); (first | (refine wpSome_one ?_; go_big_quiet_step (fail); refine wpQuiet_nil ?_) | (refine wpSome_one ?_; go_big_quiet_step (fail); refine wpQuiet_nil ?_)); (first | (refine wpSome_one ?_; go_big_quiet_step (fail); refine wpQuiet_nil ?_) | (refine wpSome_one ?_; go_big_quiet_step (fail); refine wpQuiet_nil ?_)); (first | (refine wpSome_one ?_; go_big_quiet_step (fail); refine wpQuiet_nil ?_) | (refine wpSome_one ?_; go_big_quiet_step (fail); refine wpQuiet_nil ?_)); (first | (refine wpSome_one ?_; go_big_quiet_step (fail); refine wpQuiet_nil ?_) | (refine wpSome_one ?_; go_big_quiet_step (fail); refine wpQuiet_nil ?_)); (first | (refine wpSome_one ?_; go_big_quiet_step (fail); refine wpQuiet_nil ?_) | (refine wpSome_one ?_; go_big_quiet_step (fail); refine wpQuiet_nil ?_)); (first | (refine wpSome_one ?_; go_big_quiet_step (fail); refine wpQuiet_nil ?_) | (refine wpSome_one ?_; go_big_quiet_step (fail); refine wpQuiet_nil ?_)); (first | (refine wpSome_one ?_; go_big_quiet_step (fail); refine wpQuiet_nil ?_) | (refine wpSome_one ?_; go_big_quiet_step (fail); refine wpQuiet_nil ?_)); (first | (refine wpSome_one ?_; go_big_quiet_step (fail); refine wpQuiet_nil ?_) | (refine wpSome_one ?_; go_big_quiet_step (fail); refine wpQuiet_nil ?_)); (first | (refine wpSome_one ?_; go_big_quiet_step (fail); refine wpQuiet_nil ?_) | (refine wpSome_one ?_; go_big_quiet_step (fail); refine wpQuiet_nil ?_)); (first | (refine wpSome_one ?_; go_big_quiet_step (fail); refine wpQuiet_nil ?_) | (refine wpSome_one ?_; go_big_quiet_step (fail); refine wpQuiet_nil ?_)); (first | (refine wpSome_one ?_; go_big_quiet_step (fail); refine wpQuiet_nil ?_) | (refine wpSome_one ?_; go_big_quiet_step (fail); refine wpQuiet_nil ?_)); (first | (refine wpSome_one ?_; go_big_quiet_step (fail); refine wpQuiet_nil ?_) | (refine wpSome_one ?_; go_big_quiet_step (fail); refine wpQuiet_nil ?_)); (first | (refine wpSome_one ?_; go_big_quiet_step (fail); refine wpQuiet_nil ?_) | (refine wpSome_one ?_; go_big_quiet_step (fail); refine wpQuiet_nil ?_)); (first | (refine wpSome_one ?_; go_big_quiet_step (fail); refine wpQuiet_nil ?_) | (refine wpSome_one ?_; go_big_quiet_step (fail); refine wpQuiet_nil ?_)); (refine wpSome_one ?_; go_big_quiet_step (fail); refine wpQuiet_nil ?_); refine wpSome_nil ?_; intro w' hw'; obtain ⟨nq, rfl⟩ := hw')
          go_wp2_with (first | (with_reducible refine at_list ?_; refine wpList_fop rfl rfl rfl rfl rfl ?_; intro r n hr0; have hr := hr0 _ _ (by first | with_reducible assumption | exact rfl) (by first | with_reducible assumption | exact rfl); clear hr0) | (with_reducible refine at_list ?_; refine wpList_neg rfl rfl rfl ?_; intro r hr0; have hr := hr0 _ (by first | with_reducible assumption | exact rfl); clear hr0) | (with_reducible refine at_list ?_; refine wpList_fop_g rfl rfl rfl rfl rfl ?_; intro r n hr0; have hr := hr0 _ _ (by first | with_reducible assumption | exact rfl) (by first | with_reducible assumption | exact rfl); clear hr0) | (with_reducible refine at_list ?_; refine wpList_wide_g rfl rfl Try.underlying26 Try.underlying54 rfl ?_; intro r n hr0; have hr := hr0 _ (by first | with_reducible assumption | exact rfl); clear hr0) | (with_reducible refine at_list ?_; refine wpList_wide rfl rfl rfl Try.underlying26 Try.underlying54 ?_; intro r n hr0; have hr := hr0 _ (by first | with_reducible assumption | exact rfl); clear hr0) | (go_at_call 46; refine (l04Has_any _ _ _ _ _ _ (by assumption) (by assumption)).mono ?_; rintro e w' ⟨rfl, n, rfl⟩) | (go_at_call 41; refine (l04Near_any _ _ _ _ _ _ (by assumption) (by omega) (by omega) (by omega)).mono ?_; rintro e w' ⟨u, rfl, hb, hO⟩; obtain ⟨pu, cu, rfl⟩ := OI.shape hO; (try simp only [World.size_alloc, World.size_setCell, World.size_drew, World.drewN] at hO); obtain ⟨hT, hk⟩ := bv_next hb (by (repeat (with_reducible first | assumption | apply Trk.alloc | apply Trk.setCell | apply Trk.drewN | apply Trk.drew | exact Trk.nil _))); simp only [SameOn, World.size_alloc, World.size_setCell, World.size_drew, size_drewN', and_true] at hk; have hsz := Below.size hb; (try simp only [World.size_alloc, World.size_setCell, World.size_drew, size_drewN'] at hsz)))
          go_roundw
          case rel => exact ⟨j + 1, by omega, by go_num, by rw [HST2.out]; rfl, by (repeat (first | (with_reducible exact Below.refl _ _) | (with_reducible assumption) | (with_reducible refine below_then ?_ (by assumption)) | (with_reducible refine Below.trans ?_ (by assumption)) | (with_reducible refine below_drewN ?_ _) | (with_reducible apply Below.drew) | (with_reducible refine below_alloc ?_ _) | refine Below.setCell ?_ (by first | (simp; done) | (simp; omega)) _))⟩
          case measure => simp [intOf]; omega
      · have hje : j = 4 := by omega
        have HBB : Hid (bestL P x (nbT M j) = best P x) := by show _ = _; rw [HBE.out, hje]
        have hbc := HBC.out j
        rw [HBB.out] at hbc ⊢
        clear HVN HBS1 HBS2 HBC HMC HB0 HBE HBB
        rcases HP.out.next with ⟨e1, e2⟩ | ⟨e1, R', e2, e3⟩
        · have e4 : (best P x == x) = true := by rw [e1]; exact beq_self_eq_true x
          have HE2 : Hid (E = A) := by show _ = _; rw [HE.out, e2, List.append_nil]
          clear e1 e2
          go_wp2_with (first | (with_reducible refine at_list ?_; refine wpList_fop rfl rfl rfl rfl rfl ?_; intro r n hr0; have hr := hr0 _ _ (by first | with_reducible assumption | exact rfl) (by first | with_reducible assumption | exact rfl); clear hr0) | (with_reducible refine at_list ?_; refine wpList_neg rfl rfl rfl ?_; intro r hr0; have hr := hr0 _ (by first | with_reducible assumption | exact rfl); clear hr0) | (with_reducible refine at_list ?_; refine wpList_fop_g rfl rfl rfl rfl rfl ?_; intro r n hr0; have hr := hr0 _ _ (by first | with_reducible assumption | exact rfl) (by first | with_reducible assumption | exact rfl); clear hr0) | (with_reducible refine at_list ?_; refine wpList_wide_g rfl rfl Try.underlying26 Try.underlying54 rfl ?_; intro r n hr0; have hr := hr0 _ (by first | with_reducible assumption | exact rfl); clear hr0) | (with_reducible refine at_list ?_; refine wpList_wide rfl rfl rfl Try.underlying26 Try.underlying54 ?_; intro r n hr0; have hr := hr0 _ (by first | with_reducible assumption | exact rfl); clear hr0) | (go_at_call 46; refine (l04Has_any _ _ _ _ _ _ (by assumption) (by assumption)).mono ?_; rintro e w' ⟨rfl, n, rfl⟩) | (go_at_call 41; refine (l04Near_any _ _ _ _ _ _ (by assumption) (by omega) (by omega) (by omega)).mono ?_; rintro e w' ⟨u, rfl, hb, hO⟩; obtain ⟨pu, cu, rfl⟩ := OI.shape hO; (try simp only [World.size_alloc, World.size_setCell, World.size_drew, World.drewN] at hO); obtain ⟨hT, hk⟩ := bv_next hb (by (repeat (with_reducible first | assumption | apply Trk.alloc | apply Trk.setCell | apply Trk.drewN | apply Trk.drew | exact Trk.nil _))); simp only [SameOn, World.size_alloc, World.size_setCell, World.size_drew, size_drewN', and_true] at hk; have hsz := Below.size hb; (try simp only [World.size_alloc, World.size_setCell, World.size_drew, size_drewN'] at hsz)))
          go_ret2
          exact ⟨_, by rw [HR.out.1]; rfl, by (repeat (first | (with_reducible exact Below.refl _ _) | (with_reducible assumption) | (with_reducible refine below_then ?_ (by assumption)) | (with_reducible refine Below.trans ?_ (by assumption)) | (with_reducible refine below_drewN ?_ _) | (with_reducible apply Below.drew) | (with_reducible refine below_alloc ?_ _) | refine Below.setCell ?_ (by first | (simp; done) | (simp; omega)) _)), by rw [HE2.out]; exact (HO.out.later hbx).base (by omega)⟩
        · have e4 : (best P x == x) = false := beq_eq_false_iff_ne.2 e1
          have HE2 : Hid (E = (A ++ [best P x]) ++ R') := by show _ = _; rw [HE.out, e2]; simp
          have hAl : A.length < E.length := by rw [HE2.out]; first | (simp; done) | (simp; omega)
          have HE3 := Lib.hid e3
          have HBC2 := Lib.hid hbc
          clear e1 e2 e3 hbc
          generalize best P x = y at e4 HE2 HE3 HBC2
          go_wp2_with (first | (with_reducible refine at_list ?_; refine wpList_fop rfl rfl rfl rfl rfl ?_; intro r n hr0; have hr := hr0 _ _ (by first | with_reducible assumption | exact rfl) (by first | with_reducible assumption | exact rfl); clear hr0) | (with_reducible refine at_list ?_; refine wpList_neg rfl rfl rfl ?_; intro r hr0; have hr := hr0 _ (by first | with_reducible assumption | exact rfl); clear hr0) | (with_reducible refine at_list ?_; refine wpList_fop_g rfl rfl rfl rfl rfl ?_; intro r n hr0; have hr := hr0 _ _ (by first | with_reducible assumption | exact rfl) (by first | with_reducible assumption | exact rfl); clear hr0) | (with_reducible refine at_list ?_; refine wpList_wide_g rfl rfl Try.underlying26 Try.underlying54 rfl ?_; intro r n hr0; have hr := hr0 _ (by first | with_reducible assumption | exact rfl); clear hr0) | (with_reducible refine at_list ?_; refine wpList_wide rfl rfl rfl Try.underlying26 Try.underlying54 ?_; intro r n hr0; have hr := hr0 _ (by first | with_reducible assumption | exact rfl); clear hr0) | (at_builtin; refine stop_here ?_) | (go_at_call 46; refine (l04Has_any _ _ _ _ _ _ (by assumption) (by assumption)).mono ?_; rintro e w' ⟨rfl, n, rfl⟩) | (go_at_call 41; refine (l04Near_any _ _ _ _ _ _ (by assumption) (by omega) (by omega) (by omega)).mono ?_; rintro e w' ⟨u, rfl, hb, hO⟩; obtain ⟨pu, cu, rfl⟩ := OI.shape hO; (try simp only [World.size_alloc, World.size_setCell, World.size_drew, World.drewN] at hO); obtain ⟨hT, hk⟩ := bv_next hb (by (repeat (with_reducible first | assumption | apply Trk.alloc | apply Trk.setCell | apply Trk.drewN | apply Trk.drew | exact Trk.nil _))); simp only [SameOn, World.size_alloc, World.size_setCell, World.size_drew, size_drewN', and_true] at hk; have hsz := Below.size hb; (try simp only [World.size_alloc, World.size_setCell, World.size_drew, size_drewN'] at hsz)))
          unfold Stop
          apply wpList_appI (B := w.heap.size + 1) (xs := A) (v := .slice q A.length c)
          case hg => rfl
          case ho => rfl
          case hs => rfl
          case hx => rfl
          case hO => (first | exact (HO.out.later hbx).alloc _ | exact ((HO.out.later hbx).drewN _).alloc _)
          case hc => go_simp <;> exact rfl
          case hn => omega
          case hB => simp; omega
          intro q2 c2 w2 hO2 hB2
          have hw2 : w.heap.size + 1 ≤ w2.heap.size := by have := hB2.size; simp at this; omega
          have hB3 := Below.trans (B := w.heap.size) (a := w) (by (repeat (first | (with_reducible exact Below.refl _ _) | (with_reducible assumption) | (with_reducible refine below_then ?_ (by assumption)) | (with_reducible refine Below.trans ?_ (by assumption)) | (with_reducible refine below_drewN ?_ _) | (with_reducible apply Below.drew) | (with_reducible refine below_alloc ?_ _) | refine Below.setCell ?_ (by first | (simp; done) | (simp; omega)) _))) (hB2.mono (by omega))
          have hat2 := PlAt.later (P := P) (l := ⟨some ⟨b1, o1, none⟩, z1, some ⟨b2, o2, none⟩, z2, some ⟨b3, o3, none⟩, z3, some ⟨b4, o4, none⟩, z4⟩) (b := w.heap.size) (o := 0) (by unfold PlAt; refine ⟨?_, ?_, ?_, ?_, ?_, ?_⟩ <;> go_simp) hB2 (by omega)
          have HB3 := Lib.hid hB3
          have HAT2 := Lib.hid hat2
          have HO2 := Lib.hid hO2
          clear hat2 hB3 hB2 hO2
          go_wp2
          go_roundw
          case rel => exact ⟨y, c2, q2, A ++ [y], R', rfl, by simp, HBC2.out, HE2.out, HE3.out, by show OI _ _ _ _; have := HO2.out; simpa using this, HB3.out, hw2, HAT2.out⟩
          case measure => simp [lenOf]; omega
end Go.Proofs.Ytphamdlnnfionaa
