/-
  A run of a bar: the program's way. No condition but what each contract says.
  As XPlanG; besides: what an operation makes may outlive an operation that turns memory (mode 5: it asks only what always holds, and what is told of it stays true under T, the effect of what turns memory). No condition; nothing of the program is named here.
  Plans of operations that turn memory, of which the last ones need not keep what floating loads ask: they wait for these. No condition; nothing of the program is named here.
  What the statements draw: a bar of small dyadic numbers. No condition but what each contract says.
  Which numbers and which stuffs are the same (the program's and the reference's), each function proved once. No condition but what each contract says.
  Which stuffs are the same (the program's and the reference's), each proved once; the law. No condition but what each contract says.
  Which lists of numbers are the same: the reference's way. No condition but what each contract says.
  Which bars are the same (the program's and the reference's), each proved once; the law. No condition but what each contract says.
  Lists of numbers that the laws compare. No condition but what each contract says.
  How far two numbers lie apart, in 64 bits, for the laws of the other family. No condition but what each contract says.
  Bytes handed in: their lengths, a number chosen by one of them; how they are opened. No condition but what each contract says.
-/
import Derived.Test.YtjeeflldbhajiaaFM7
import Derived.Test.YtjeeflldbhajiaaFM11
import Derived.Test.YtjeeflldbhajiaaFM5
import Derived.Test.YtjeeflldbhajiaaFM4
import Derived.Test.YtjeeflldbhajiaaFM3
import Derived.Test.YtjeeflldbhajiaaFM1
import Derived.Test.YtjeeflldbhajiaaFM6
import Derived.Test.YtjeeflldbhajiaaFM2
import Derived.Deep.Slices
set_option linter.unusedSimpArgs false
set_option linter.unusedVariables false
set_option linter.unusedSectionVars false
namespace Go.Proofs.Ytjeeflldbhajiaa
open Go Go.RowKit
open Go.ChangeShapes Go.WideShapes Go.ChangeAt Go.RowKit Go.Joins
set_option maxHeartbeats 16000000 in
set_option maxRecDepth 100000 in
theorem implBrun_any (s : St) (p : Nat) (v : Value) (xs : List Nat) (l r : Nat) (b1 b2 : Bool) (t : Nat) (z : Int) (w : World) (hs : FS w v xs) : Calls Try.prog 44 #[.agg #[.float .f32 s.a, .float .f32 s.b, .float .f32 s.c, .float .f32 s.d, .float .f32 s.p, .float .f32 s.l, .float .f32 p, v], .float .f32 l, .float .f32 r, .bool b1, .bool b2, .float .f32 t, .int .i64 z] w (BBL w (bS (brB s p l r b1 b2 t xs z) s) (bP (brB s p l r b1 b2 t xs z) p) (bX (brB s p l r b1 b2 t xs z) (brX s p l r b1 b2 t xs z.toNat)) (bX (brB s p l r b1 b2 t xs z) (brL s p l r b1 b2 t xs z.toNat)) (brB s p l r b1 b2 t xs z)) := by
  have HS := Lib.hid hs
  obtain ⟨qv, cv, rfl, hc1, hc2, HV⟩ := FS_view hs
  obtain ⟨B0, hB0⟩ : ∃ B0, B0 = brB s p l r b1 b2 t xs z := ⟨_, rfl⟩
  have HB0 := Lib.hid hB0
  have HVB := Lib.hid (fun w h => implValidBar_any s p (.slice qv xs.length cv) xs w h)
  have HMS := Lib.hid (fun w h => mayStep_any s p (.slice qv xs.length cv) xs l r t w h)
  rw [← hB0]
  clear hs hB0 HV
  rcases h0 : barOk s p xs
  · have HE : Hid (B0 = false) := by show _ = _; rw [HB0.out]; exact brB_no (by simp [brPre, canB, h0])
    rw [h0] at HVB
    clear h0 HMS
    go_enter Try.func44, Try.ntmps44
    go_wp2_with (first | (with_reducible refine at_list ?_; refine wpList_fop rfl rfl rfl rfl rfl ?_; intro r n hr0; have hr := hr0 _ _ (by first | with_reducible assumption | exact rfl) (by first | with_reducible assumption | exact rfl); clear hr0) | (with_reducible refine at_list ?_; refine wpList_neg rfl rfl rfl ?_; intro r hr0; have hr := hr0 _ (by first | with_reducible assumption | exact rfl); clear hr0) | (with_reducible refine at_list ?_; refine wpList_fop_g rfl rfl rfl rfl rfl ?_; intro r n hr0; have hr := hr0 _ _ (by first | with_reducible assumption | exact rfl) (by first | with_reducible assumption | exact rfl); clear hr0) | (with_reducible refine at_list ?_; refine wpList_wide_g rfl rfl Try.underlying22 Try.underlying40 rfl ?_; intro r n hr0; have hr := hr0 _ (by first | with_reducible assumption | exact rfl); clear hr0) | (with_reducible refine at_list ?_; refine wpList_wide rfl rfl rfl Try.underlying22 Try.underlying40 ?_; intro r n hr0; have hr := hr0 _ (by first | with_reducible assumption | exact rfl); clear hr0) | (go_at_call 21; refine ((HVB.out _ (HS.out.later (by (repeat (first | (with_reducible exact Below.refl _ _) | (with_reducible assumption) | (with_reducible refine below_then ?_ (by assumption)) | (with_reducible refine Below.trans ?_ (by assumption)) | (with_reducible refine below_drewN ?_ _) | (with_reducible apply Below.drew) | (with_reducible refine below_alloc ?_ _) | refine Below.setCell ?_ (by first | (simp; done) | (simp; omega)) _))))) ).mono ?_; rintro e w' ⟨rfl, hb⟩; obtain ⟨hT, hk⟩ := bv_next hb (by (repeat (with_reducible first | assumption | apply Trk.alloc | apply Trk.setCell | apply Trk.drewN | apply Trk.drew | exact Trk.nil _))); simp only [SameOn, World.size_alloc, World.size_setCell, World.size_drew, size_drewN', and_true] at hk; have hsz := Below.size hb; (try simp only [World.size_alloc, World.size_setCell, World.size_drew, size_drewN'] at hsz)) | (go_at_call 91; refine (mayStep_any _ _ _ _ _ _ _ _ (by assumption)).mono ?_; rintro e w' ⟨rfl, hb⟩; obtain ⟨hT, hk⟩ := bv_next hb (by (repeat (with_reducible first | assumption | apply Trk.alloc | apply Trk.setCell | apply Trk.drewN | apply Trk.drew | exact Trk.nil _))); simp only [SameOn, World.size_alloc, World.size_setCell, World.size_drew, size_drewN', and_true] at hk; have hsz := Below.size hb; (try simp only [World.size_alloc, World.size_setCell, World.size_drew, size_drewN'] at hsz)) | (go_at_call 86; refine (within_any _ _ _ _).mono ?_; rintro e w' ⟨rfl, n, rfl⟩) | (go_at_call 93; refine (cloneF_any _ _ _ (by assumption) (by omega)).mono ?_; rintro e w' ⟨u, rfl, hb, hO⟩; obtain ⟨pu, cu, rfl⟩ := OF.shape hO; (try simp only [World.size_alloc, World.size_setCell, World.size_drew, World.drewN] at hO); obtain ⟨hT, hk⟩ := bv_next hb (by (repeat (with_reducible first | assumption | apply Trk.alloc | apply Trk.setCell | apply Trk.drewN | apply Trk.drew | exact Trk.nil _))); simp only [SameOn, World.size_alloc, World.size_setCell, World.size_drew, size_drewN', and_true] at hk; have hsz := Below.size hb; (try simp only [World.size_alloc, World.size_setCell, World.size_drew, size_drewN'] at hsz)) | (go_at_call 28; refine (implMelted_any _ _ _ _ _ (by assumption)).mono ?_; rintro e w' ⟨r, rfl, hr, hb⟩; obtain ⟨hT, hk⟩ := bv_next hb (by (repeat (with_reducible first | assumption | apply Trk.alloc | apply Trk.setCell | apply Trk.drewN | apply Trk.drew | exact Trk.nil _))); simp only [SameOn, World.size_alloc, World.size_setCell, World.size_drew, size_drewN', and_true] at hk; have hsz := Below.size hb; (try simp only [World.size_alloc, World.size_setCell, World.size_drew, size_drewN'] at hsz)))
    all_goals
      refine bodyPost_ret (v := .tuple #[.agg #[.float .f32 0, .float .f32 0, .float .f32 0, .float .f32 0, .float .f32 0, .float .f32 0, .float .f32 0, .slice none 0 0], .slice none 0 0, .bool false]) (by simp [results, Try.results44, go_sem, *]) rfl ?_
      exact bbl_no rfl (by (repeat (first | (with_reducible exact Below.refl _ _) | (with_reducible assumption) | (with_reducible refine below_then ?_ (by assumption)) | (with_reducible refine Below.trans ?_ (by assumption)) | (with_reducible refine below_drewN ?_ _) | (with_reducible apply Below.drew) | (with_reducible refine below_alloc ?_ _) | refine Below.setCell ?_ (by first | (simp; done) | (simp; omega)) _))) HE.out
  rw [h0] at HVB
  have HBK := Lib.hid h0
  rcases h1 : canB s p xs l r t
  · have HE : Hid (B0 = false) := by show _ = _; rw [HB0.out]; exact brB_no (by simp [brPre, h1])
    rw [h1] at HMS
    clear h0 h1
    go_enter Try.func44, Try.ntmps44
    go_wp2_with (first | (with_reducible refine at_list ?_; refine wpList_fop rfl rfl rfl rfl rfl ?_; intro r n hr0; have hr := hr0 _ _ (by first | with_reducible assumption | exact rfl) (by first | with_reducible assumption | exact rfl); clear hr0) | (with_reducible refine at_list ?_; refine wpList_neg rfl rfl rfl ?_; intro r hr0; have hr := hr0 _ (by first | with_reducible assumption | exact rfl); clear hr0) | (with_reducible refine at_list ?_; refine wpList_fop_g rfl rfl rfl rfl rfl ?_; intro r n hr0; have hr := hr0 _ _ (by first | with_reducible assumption | exact rfl) (by first | with_reducible assumption | exact rfl); clear hr0) | (with_reducible refine at_list ?_; refine wpList_wide_g rfl rfl Try.underlying22 Try.underlying40 rfl ?_; intro r n hr0; have hr := hr0 _ (by first | with_reducible assumption | exact rfl); clear hr0) | (with_reducible refine at_list ?_; refine wpList_wide rfl rfl rfl Try.underlying22 Try.underlying40 ?_; intro r n hr0; have hr := hr0 _ (by first | with_reducible assumption | exact rfl); clear hr0) | (go_at_call 21; refine ((HVB.out _ (HS.out.later (by (repeat (first | (with_reducible exact Below.refl _ _) | (with_reducible assumption) | (with_reducible refine below_then ?_ (by assumption)) | (with_reducible refine Below.trans ?_ (by assumption)) | (with_reducible refine below_drewN ?_ _) | (with_reducible apply Below.drew) | (with_reducible refine below_alloc ?_ _) | refine Below.setCell ?_ (by first | (simp; done) | (simp; omega)) _))))) ).mono ?_; rintro e w' ⟨rfl, hb⟩; obtain ⟨hT, hk⟩ := bv_next hb (by (repeat (with_reducible first | assumption | apply Trk.alloc | apply Trk.setCell | apply Trk.drewN | apply Trk.drew | exact Trk.nil _))); simp only [SameOn, World.size_alloc, World.size_setCell, World.size_drew, size_drewN', and_true] at hk; have hsz := Below.size hb; (try simp only [World.size_alloc, World.size_setCell, World.size_drew, size_drewN'] at hsz)) | (go_at_call 91; refine ((HMS.out _ (HS.out.later (by (repeat (first | (with_reducible exact Below.refl _ _) | (with_reducible assumption) | (with_reducible refine below_then ?_ (by assumption)) | (with_reducible refine Below.trans ?_ (by assumption)) | (with_reducible refine below_drewN ?_ _) | (with_reducible apply Below.drew) | (with_reducible refine below_alloc ?_ _) | refine Below.setCell ?_ (by first | (simp; done) | (simp; omega)) _))))) ).mono ?_; rintro e w' ⟨rfl, hb⟩; obtain ⟨hT, hk⟩ := bv_next hb (by (repeat (with_reducible first | assumption | apply Trk.alloc | apply Trk.setCell | apply Trk.drewN | apply Trk.drew | exact Trk.nil _))); simp only [SameOn, World.size_alloc, World.size_setCell, World.size_drew, size_drewN', and_true] at hk; have hsz := Below.size hb; (try simp only [World.size_alloc, World.size_setCell, World.size_drew, size_drewN'] at hsz)) | (go_at_call 86; refine (within_any _ _ _ _).mono ?_; rintro e w' ⟨rfl, n, rfl⟩) | (go_at_call 93; refine (cloneF_any _ _ _ (by assumption) (by omega)).mono ?_; rintro e w' ⟨u, rfl, hb, hO⟩; obtain ⟨pu, cu, rfl⟩ := OF.shape hO; (try simp only [World.size_alloc, World.size_setCell, World.size_drew, World.drewN] at hO); obtain ⟨hT, hk⟩ := bv_next hb (by (repeat (with_reducible first | assumption | apply Trk.alloc | apply Trk.setCell | apply Trk.drewN | apply Trk.drew | exact Trk.nil _))); simp only [SameOn, World.size_alloc, World.size_setCell, World.size_drew, size_drewN', and_true] at hk; have hsz := Below.size hb; (try simp only [World.size_alloc, World.size_setCell, World.size_drew, size_drewN'] at hsz)) | (go_at_call 28; refine (implMelted_any _ _ _ _ _ (by assumption)).mono ?_; rintro e w' ⟨r, rfl, hr, hb⟩; obtain ⟨hT, hk⟩ := bv_next hb (by (repeat (with_reducible first | assumption | apply Trk.alloc | apply Trk.setCell | apply Trk.drewN | apply Trk.drew | exact Trk.nil _))); simp only [SameOn, World.size_alloc, World.size_setCell, World.size_drew, size_drewN', and_true] at hk; have hsz := Below.size hb; (try simp only [World.size_alloc, World.size_setCell, World.size_drew, size_drewN'] at hsz)))
    all_goals
      refine bodyPost_ret (v := .tuple #[.agg #[.float .f32 0, .float .f32 0, .float .f32 0, .float .f32 0, .float .f32 0, .float .f32 0, .float .f32 0, .slice none 0 0], .slice none 0 0, .bool false]) (by simp [results, Try.results44, go_sem, *]) rfl ?_
      exact bbl_no rfl (by (repeat (first | (with_reducible exact Below.refl _ _) | (with_reducible assumption) | (with_reducible refine below_then ?_ (by assumption)) | (with_reducible refine Below.trans ?_ (by assumption)) | (with_reducible refine below_drewN ?_ _) | (with_reducible apply Below.drew) | (with_reducible refine below_alloc ?_ _) | refine Below.setCell ?_ (by first | (simp; done) | (simp; omega)) _))) HE.out
  rw [h1] at HMS
  have HCN := Lib.hid h1
  rcases h3 : inB z 0 128
  · have HE : Hid (B0 = false) := by show _ = _; rw [HB0.out]; exact brB_no (by simp [brPre, h3])
    clear h0 h1
    go_enter Try.func44, Try.ntmps44
    go_wp2_with (first | (with_reducible refine at_list ?_; refine wpList_fop rfl rfl rfl rfl rfl ?_; intro r n hr0; have hr := hr0 _ _ (by first | with_reducible assumption | exact rfl) (by first | with_reducible assumption | exact rfl); clear hr0) | (with_reducible refine at_list ?_; refine wpList_neg rfl rfl rfl ?_; intro r hr0; have hr := hr0 _ (by first | with_reducible assumption | exact rfl); clear hr0) | (with_reducible refine at_list ?_; refine wpList_fop_g rfl rfl rfl rfl rfl ?_; intro r n hr0; have hr := hr0 _ _ (by first | with_reducible assumption | exact rfl) (by first | with_reducible assumption | exact rfl); clear hr0) | (with_reducible refine at_list ?_; refine wpList_wide_g rfl rfl Try.underlying22 Try.underlying40 rfl ?_; intro r n hr0; have hr := hr0 _ (by first | with_reducible assumption | exact rfl); clear hr0) | (with_reducible refine at_list ?_; refine wpList_wide rfl rfl rfl Try.underlying22 Try.underlying40 ?_; intro r n hr0; have hr := hr0 _ (by first | with_reducible assumption | exact rfl); clear hr0) | (go_at_call 21; refine ((HVB.out _ (HS.out.later (by (repeat (first | (with_reducible exact Below.refl _ _) | (with_reducible assumption) | (with_reducible refine below_then ?_ (by assumption)) | (with_reducible refine Below.trans ?_ (by assumption)) | (with_reducible refine below_drewN ?_ _) | (with_reducible apply Below.drew) | (with_reducible refine below_alloc ?_ _) | refine Below.setCell ?_ (by first | (simp; done) | (simp; omega)) _))))) ).mono ?_; rintro e w' ⟨rfl, hb⟩; obtain ⟨hT, hk⟩ := bv_next hb (by (repeat (with_reducible first | assumption | apply Trk.alloc | apply Trk.setCell | apply Trk.drewN | apply Trk.drew | exact Trk.nil _))); simp only [SameOn, World.size_alloc, World.size_setCell, World.size_drew, size_drewN', and_true] at hk; have hsz := Below.size hb; (try simp only [World.size_alloc, World.size_setCell, World.size_drew, size_drewN'] at hsz)) | (go_at_call 91; refine ((HMS.out _ (HS.out.later (by (repeat (first | (with_reducible exact Below.refl _ _) | (with_reducible assumption) | (with_reducible refine below_then ?_ (by assumption)) | (with_reducible refine Below.trans ?_ (by assumption)) | (with_reducible refine below_drewN ?_ _) | (with_reducible apply Below.drew) | (with_reducible refine below_alloc ?_ _) | refine Below.setCell ?_ (by first | (simp; done) | (simp; omega)) _))))) ).mono ?_; rintro e w' ⟨rfl, hb⟩; obtain ⟨hT, hk⟩ := bv_next hb (by (repeat (with_reducible first | assumption | apply Trk.alloc | apply Trk.setCell | apply Trk.drewN | apply Trk.drew | exact Trk.nil _))); simp only [SameOn, World.size_alloc, World.size_setCell, World.size_drew, size_drewN', and_true] at hk; have hsz := Below.size hb; (try simp only [World.size_alloc, World.size_setCell, World.size_drew, size_drewN'] at hsz)) | (go_at_call 86; refine (within_any _ _ _ _).mono ?_; rintro e w' ⟨rfl, n, rfl⟩) | (go_at_call 93; refine (cloneF_any _ _ _ (by assumption) (by omega)).mono ?_; rintro e w' ⟨u, rfl, hb, hO⟩; obtain ⟨pu, cu, rfl⟩ := OF.shape hO; (try simp only [World.size_alloc, World.size_setCell, World.size_drew, World.drewN] at hO); obtain ⟨hT, hk⟩ := bv_next hb (by (repeat (with_reducible first | assumption | apply Trk.alloc | apply Trk.setCell | apply Trk.drewN | apply Trk.drew | exact Trk.nil _))); simp only [SameOn, World.size_alloc, World.size_setCell, World.size_drew, size_drewN', and_true] at hk; have hsz := Below.size hb; (try simp only [World.size_alloc, World.size_setCell, World.size_drew, size_drewN'] at hsz)) | (go_at_call 28; refine (implMelted_any _ _ _ _ _ (by assumption)).mono ?_; rintro e w' ⟨r, rfl, hr, hb⟩; obtain ⟨hT, hk⟩ := bv_next hb (by (repeat (with_reducible first | assumption | apply Trk.alloc | apply Trk.setCell | apply Trk.drewN | apply Trk.drew | exact Trk.nil _))); simp only [SameOn, World.size_alloc, World.size_setCell, World.size_drew, size_drewN', and_true] at hk; have hsz := Below.size hb; (try simp only [World.size_alloc, World.size_setCell, World.size_drew, size_drewN'] at hsz)))
    all_goals
      refine bodyPost_ret (v := .tuple #[.agg #[.float .f32 0, .float .f32 0, .float .f32 0, .float .f32 0, .float .f32 0, .float .f32 0, .float .f32 0, .slice none 0 0], .slice none 0 0, .bool false]) (by simp [results, Try.results44, go_sem, *]) rfl ?_
      exact bbl_no rfl (by (repeat (first | (with_reducible exact Below.refl _ _) | (with_reducible assumption) | (with_reducible refine below_then ?_ (by assumption)) | (with_reducible refine Below.trans ?_ (by assumption)) | (with_reducible refine below_drewN ?_ _) | (with_reducible apply Below.drew) | (with_reducible refine below_alloc ?_ _) | refine Below.setCell ?_ (by first | (simp; done) | (simp; omega)) _))) HE.out
  have hin : 0 ≤ z ∧ z ≤ 128 := by simpa [inB] using h3
  obtain ⟨N, hN⟩ : ∃ N : Nat, N = z.toNat := ⟨_, rfl⟩
  obtain ⟨RK, MK, UK, OK, HT, LK, ⟨hRK, hMK, hRS, hUK, hLK, hHT⟩, ⟨r0, u0, -, l0⟩, hUS, -, -, hLS, hLL, hOk, hStop, -, hUO⟩ := br_abs (s := s) (p := p) (l := l) (r := r) (b1 := b1) (b2 := b2) (t := t) (xs := xs) h0
  have HU : Hid (B0 = UK N) := by show _ = _; rw [HB0.out, hN, hUK]; exact brB_yes (by unfold brPre; rw [h1, h3]; rfl)
  have HM : Hid (∀ (k : Nat) (u : Value) (w' : World), OK k = true → FS w' u (RK k) → Calls Try.prog 42 #[.agg #[.float .f32 s.a, .float .f32 s.b, .float .f32 s.c, .float .f32 s.d, .float .f32 s.p, .float .f32 s.l, .float .f32 p, u], .float .f32 l, .float .f32 r, .bool b1, .bool b2, .float .f32 t] w' (BBE w' s p (RK (k + 1)) (MK k))) := fun k u w' hok h => by
    have h9 := implStb_any s p u (RK k) l r b1 b2 t w' h
    have e : stbOk s p (RK k) l r b1 b2 t = MK k := by
      unfold stbOk
      rw [canB_next HCN.out, hOk k hok, Bool.true_and, ← hRS k, ← hMK k]
    rw [e, ← hRS k] at h9
    exact h9
  have HHT : Hid (∀ (k : Nat) (u : Value) (w : World), MK k = true → FS w u (RK (k + 1)) → Calls Try.prog 28 #[.agg #[.float .f32 s.a, .float .f32 s.b, .float .f32 s.c, .float .f32 s.d, .float .f32 s.p, .float .f32 s.l, .float .f32 p, u]] w (BFB w .f32 (chk (HT (k + 1))) (fin .f32 (HT (k + 1))))) := fun k u w hm h => by
    have h2 := implMelted_any s p u (RK (k + 1)) w h
    rw [← hMK k, hm, ← hHT (k + 1)] at h2
    exact h2
  have HPL : Hid (∀ k, OK k = true → 1 ≤ (RK k).length ∧ (RK k).length ≤ 48) := fun k h => barOk_len (hOk k h)
  rw [← hRK, ← hLK, ← hN]
  have HF := Lib.hid (And.intro hUS (And.intro hLS (And.intro hLL (And.intro hStop hUO))))
  have HR0 := Lib.hid (And.intro r0 (And.intro u0 l0))
  have HNN := Lib.hid hN
  have hmx : (z.toNat : Int) = z := by omega
  have HMX := Lib.hid hmx
  obtain ⟨hn1, hn2⟩ := barOk_len h0
  clear h0 h1 hRK hMK hRS hUK hLK hHT r0 u0 l0 hUS hLS hLL hOk hStop hUO HB0 hN hmx
  go_enter Try.func44, Try.ntmps44
  go_wp2_with (first | (with_reducible refine at_list ?_; refine wpList_fop rfl rfl rfl rfl rfl ?_; intro r n hr0; have hr := hr0 _ _ (by first | with_reducible assumption | exact rfl) (by first | with_reducible assumption | exact rfl); clear hr0) | (with_reducible refine at_list ?_; refine wpList_neg rfl rfl rfl ?_; intro r hr0; have hr := hr0 _ (by first | with_reducible assumption | exact rfl); clear hr0) | (with_reducible refine at_list ?_; refine wpList_fop_g rfl rfl rfl rfl rfl ?_; intro r n hr0; have hr := hr0 _ _ (by first | with_reducible assumption | exact rfl) (by first | with_reducible assumption | exact rfl); clear hr0) | (with_reducible refine at_list ?_; refine wpList_wide_g rfl rfl Try.underlying22 Try.underlying40 rfl ?_; intro r n hr0; have hr := hr0 _ (by first | with_reducible assumption | exact rfl); clear hr0) | (with_reducible refine at_list ?_; refine wpList_wide rfl rfl rfl Try.underlying22 Try.underlying40 ?_; intro r n hr0; have hr := hr0 _ (by first | with_reducible assumption | exact rfl); clear hr0) | (go_at_call 21; refine ((HVB.out _ (HS.out.later (by (repeat (first | (with_reducible exact Below.refl _ _) | (with_reducible assumption) | (with_reducible refine below_then ?_ (by assumption)) | (with_reducible refine Below.trans ?_ (by assumption)) | (with_reducible refine below_drewN ?_ _) | (with_reducible apply Below.drew) | (with_reducible refine below_alloc ?_ _) | refine Below.setCell ?_ (by first | (simp; done) | (simp; omega)) _))))) ).mono ?_; rintro e w' ⟨rfl, hb⟩; obtain ⟨hT, hk⟩ := bv_next hb (by (repeat (with_reducible first | assumption | apply Trk.alloc | apply Trk.setCell | apply Trk.drewN | apply Trk.drew | exact Trk.nil _))); simp only [SameOn, World.size_alloc, World.size_setCell, World.size_drew, size_drewN', and_true] at hk; have hsz := Below.size hb; (try simp only [World.size_alloc, World.size_setCell, World.size_drew, size_drewN'] at hsz)) | (go_at_call 91; refine ((HMS.out _ (HS.out.later (by (repeat (first | (with_reducible exact Below.refl _ _) | (with_reducible assumption) | (with_reducible refine below_then ?_ (by assumption)) | (with_reducible refine Below.trans ?_ (by assumption)) | (with_reducible refine below_drewN ?_ _) | (with_reducible apply Below.drew) | (with_reducible refine below_alloc ?_ _) | refine Below.setCell ?_ (by first | (simp; done) | (simp; omega)) _))))) ).mono ?_; rintro e w' ⟨rfl, hb⟩; obtain ⟨hT, hk⟩ := bv_next hb (by (repeat (with_reducible first | assumption | apply Trk.alloc | apply Trk.setCell | apply Trk.drewN | apply Trk.drew | exact Trk.nil _))); simp only [SameOn, World.size_alloc, World.size_setCell, World.size_drew, size_drewN', and_true] at hk; have hsz := Below.size hb; (try simp only [World.size_alloc, World.size_setCell, World.size_drew, size_drewN'] at hsz)) | (go_at_call 86; refine (within_any _ _ _ _).mono ?_; rintro e w' ⟨rfl, n, rfl⟩) | (go_at_call 93; refine (cloneF_any _ _ _ (by assumption) (by omega)).mono ?_; rintro e w' ⟨u, rfl, hb, hO⟩; obtain ⟨pu, cu, rfl⟩ := OF.shape hO; (try simp only [World.size_alloc, World.size_setCell, World.size_drew, World.drewN] at hO); obtain ⟨hT, hk⟩ := bv_next hb (by (repeat (with_reducible first | assumption | apply Trk.alloc | apply Trk.setCell | apply Trk.drewN | apply Trk.drew | exact Trk.nil _))); simp only [SameOn, World.size_alloc, World.size_setCell, World.size_drew, size_drewN', and_true] at hk; have hsz := Below.size hb; (try simp only [World.size_alloc, World.size_setCell, World.size_drew, size_drewN'] at hsz)) | (go_at_call 28; refine (implMelted_any _ _ _ _ _ (by assumption)).mono ?_; rintro e w' ⟨r, rfl, hr, hb⟩; obtain ⟨hT, hk⟩ := bv_next hb (by (repeat (with_reducible first | assumption | apply Trk.alloc | apply Trk.setCell | apply Trk.drewN | apply Trk.drew | exact Trk.nil _))); simp only [SameOn, World.size_alloc, World.size_setCell, World.size_drew, size_drewN', and_true] at hk; have hsz := Below.size hb; (try simp only [World.size_alloc, World.size_setCell, World.size_drew, size_drewN'] at hsz)))
  refine wp_named ?_
  intro w3 hw3
  obtain ⟨HB3, hz3, HAT3, HR8⟩ : Hid (Below w.heap.size w w3) ∧ w.heap.size + 2 ≤ w3.heap.size ∧ Hid (BarAt s p (.slice qv xs.length cv) w3 w.heap.size 0) ∧ Hid ((w3.cell? ⟨w.heap.size + 1, 0, none⟩ = some (.float .f32 0) ∧ w3.cell? ⟨w.heap.size + 1, 1, none⟩ = some (.float .f32 0) ∧ w3.cell? ⟨w.heap.size + 1, 2, none⟩ = some (.float .f32 0) ∧ w3.cell? ⟨w.heap.size + 1, 3, none⟩ = some (.float .f32 0) ∧ w3.cell? ⟨w.heap.size + 1, 4, none⟩ = some (.float .f32 0) ∧ w3.cell? ⟨w.heap.size + 1, 5, none⟩ = some (.float .f32 0) ∧ w3.cell? ⟨w.heap.size + 1, 6, none⟩ = some (.float .f32 0) ∧ w3.cell? ⟨w.heap.size + 1, 7, none⟩ = some (.slice none 0 0)) ∧ ∀ o, w3.frozen? ⟨w.heap.size + 1, o, none⟩ = false) := by
    have h9 := hsz
    try simp only [World.size_alloc, World.size_setCell, World.size_drew, size_drewN'] at h9
    refine ⟨by rw [hw3]; show Below _ _ _; (repeat (first | (with_reducible exact Below.refl _ _) | (with_reducible assumption) | (with_reducible refine below_then ?_ (by assumption)) | (with_reducible refine Below.trans ?_ (by assumption)) | (with_reducible refine below_drewN ?_ _) | (with_reducible apply Below.drew) | (with_reducible refine below_alloc ?_ _) | refine Below.setCell ?_ (by first | (simp; done) | (simp; omega)) _)), by rw [hw3]; first | omega | (simp; omega), by rw [hw3]; exact (by unfold BarAt St.at; refine ⟨⟨?_, ?_, ?_, ?_, ?_, ?_⟩, ?_, ?_⟩ <;> go_simp), ?_⟩
    rw [hw3]
    exact ⟨⟨by go_simp, by go_simp, by go_simp, by go_simp, by go_simp, by go_simp, by go_simp, by go_simp⟩, fun o => by go_simp⟩
  have HS3 : Hid (FS w3 (.slice qv xs.length cv) xs) := HS.out.later HB3.out
  clear hw3 hb hk hT hsz
  obtain ⟨⟨g0, g1, g2, g3, g4, g5⟩, g6, g7⟩ := HAT3.out
  simp only [Nat.zero_add] at g0 g1 g2 g3 g4 g5 g6 g7
  have hT : Trk w3 [w.heap.size, w.heap.size + 1] := ((Trk.nil w3).more (by omega)).more (by omega)
  (apply wp_region_planG (F := (fun _ => True)) (fun u => Below w3.heap.size w3 u) (fun a c h hb => h.trans (hb.mono h.size)); (case hW => exact (by first | assumption | exact Below.refl _ _)); (case hF0 => exact (by (intro u h; trivial))); ((apply wpG_det; (case hw => exact rfl); (case hs => (intro cs b h; cases h)); (case h1 => (intro w'; go_simp <;> exact rfl))); apply wpG_norm; (case ha => (simp only [Act.put, List.setIfInBounds_toArray, List.set_cons_zero, List.set_cons_succ]; exact rfl))); ((apply wpG_val; (case hw => exact rfl); (case h1 => (intro w' hb hk0; obtain ⟨hT, hk⟩ := bv_next hb (by (repeat (with_reducible first | assumption | apply Trk.alloc | apply Trk.setCell | apply Trk.drewN | apply Trk.drew | exact Trk.nil _))); simp only [SameOn, World.size_alloc, World.size_setCell, World.size_drew, size_drewN', and_true] at hk; have hsz := Below.size hb; (try simp only [World.size_alloc, World.size_setCell, World.size_drew, size_drewN'] at hsz); go_simp <;> exact rfl))); apply wpG_norm; (case ha => (simp only [Act.put, List.setIfInBounds_toArray, List.set_cons_zero, List.set_cons_succ]; exact rfl))); ((apply wpG_det; (case hw => exact rfl); (case hs => (intro cs b h; cases h)); (case h1 => (intro w'; go_simp <;> exact rfl))); apply wpG_norm; (case ha => (simp only [Act.put, List.setIfInBounds_toArray, List.set_cons_zero, List.set_cons_succ]; exact rfl))); ((apply wpG_val; (case hw => exact rfl); (case h1 => (intro w' hb hk0; obtain ⟨hT, hk⟩ := bv_next hb (by (repeat (with_reducible first | assumption | apply Trk.alloc | apply Trk.setCell | apply Trk.drewN | apply Trk.drew | exact Trk.nil _))); simp only [SameOn, World.size_alloc, World.size_setCell, World.size_drew, size_drewN', and_true] at hk; have hsz := Below.size hb; (try simp only [World.size_alloc, World.size_setCell, World.size_drew, size_drewN'] at hsz); go_simp <;> exact rfl))); apply wpG_norm; (case ha => (simp only [Act.put, List.setIfInBounds_toArray, List.set_cons_zero, List.set_cons_succ]; exact rfl))); ((apply wpG_det; (case hw => exact rfl); (case hs => (intro cs b h; cases h)); (case h1 => (intro w'; go_simp <;> exact rfl))); apply wpG_norm; (case ha => (simp only [Act.put, List.setIfInBounds_toArray, List.set_cons_zero, List.set_cons_succ]; exact rfl))); ((apply wpG_val; (case hw => exact rfl); (case h1 => (intro w' hb hk0; obtain ⟨hT, hk⟩ := bv_next hb (by (repeat (with_reducible first | assumption | apply Trk.alloc | apply Trk.setCell | apply Trk.drewN | apply Trk.drew | exact Trk.nil _))); simp only [SameOn, World.size_alloc, World.size_setCell, World.size_drew, size_drewN', and_true] at hk; have hsz := Below.size hb; (try simp only [World.size_alloc, World.size_setCell, World.size_drew, size_drewN'] at hsz); go_simp <;> exact rfl))); apply wpG_norm; (case ha => (simp only [Act.put, List.setIfInBounds_toArray, List.set_cons_zero, List.set_cons_succ]; exact rfl))); ((apply wpG_callO w3.heap.size xs; (case hw => exact rfl); (case he => (intro w'; go_simp; exact ⟨rfl, rfl⟩)); (case hB => (intro u h; exact h.size)); (case hc => (intro w' hi hk0; exact cloneF_any xs _ _ (HS3.out.later hi) ⟨hn1, by omega⟩)); intro q0 c0); apply wpG_norm; (case ha => (simp only [Act.put, List.setIfInBounds_toArray, List.set_cons_zero, List.set_cons_succ]; exact rfl))); ((apply wpG_det; (case hw => exact rfl); (case hs => (intro cs b h; cases h)); (case h1 => (intro w'; go_simp <;> exact rfl))); apply wpG_norm; (case ha => (simp only [Act.put, List.setIfInBounds_toArray, List.set_cons_zero, List.set_cons_succ]; exact rfl))); ((apply wpG_lit0 (t := 22); (case hw => exact rfl); (case h1 => (intro w'; go_simp <;> exact rfl)); intro bl); apply wpG_norm; (case ha => (simp only [Act.put, List.setIfInBounds_toArray, List.set_cons_zero, List.set_cons_succ]; exact rfl))); ((apply wpG_varT (B := w3.heap.size) (fun u h => h.size) [.float .f32 0, .float .f32 0, .float .f32 0, .float .f32 0, .float .f32 0, .float .f32 0, .float .f32 0, .slice none 0 0] 32; (case hw => exact rfl); (case h1 => (intro w'; go_simp <;> exact rfl)); intro b17); apply wpG_norm; (case ha => (simp only [Act.put, List.setIfInBounds_toArray, List.set_cons_zero, List.set_cons_succ]; exact rfl))); ((apply wpG_putD [.float .f32 0, .float .f32 0, .float .f32 0, .float .f32 0, .float .f32 0, .float .f32 0, .float .f32 0, .slice none 0 0] (bcM w3.heap.size s p xs) (bcM_keeps _ _ _ _) (fun u => Below w3.heap.size w3 u) (fun a c h hb => h.trans (hb.mono h.size)) (b := b17) (vs := #[.float .f32 s.a, .float .f32 s.b, .float .f32 s.c, .float .f32 s.d, .float .f32 s.p, .float .f32 s.l, .float .f32 p, .slice q0 xs.length c0]) (x0 := [.pointer (some ⟨b17, 0, none⟩), .agg #[.float .f32 s.a, .float .f32 s.b, .float .f32 s.c, .float .f32 s.d, .float .f32 s.p, .float .f32 s.l, .float .f32 p, .slice q0 xs.length c0], .pointer (some ⟨w.heap.size, 0, none⟩), .agg #[.float .f32 s.a, .float .f32 s.b, .float .f32 s.c, .float .f32 s.d, .float .f32 s.p, .float .f32 s.l], .pointer (some ⟨w.heap.size, 6, none⟩), .float .f32 p, .pointer (some ⟨w.heap.size, 7, none⟩), .slice qv xs.length cv, .slice q0 xs.length c0, .agg #[.float .f32 s.a, .float .f32 s.b, .float .f32 s.c, .float .f32 s.d, .float .f32 s.p, .float .f32 s.l, .float .f32 p, .slice q0 xs.length c0], .pointer (some ⟨b17, 0, none⟩)]); (case hox => (first | exact rfl | kernel_rfl)); (case ho => exact rfl); (case hx => exact rfl); (case hy => exact rfl); (case hn => exact rfl); (case hi => kernel_rfl); (case h2 => exact rfl); (case hw => exact rfl); (case hk => (intro w' hi hd; have hv : vtK w3.heap.size [.float .f32 0, .float .f32 0, .float .f32 0, .float .f32 0, .float .f32 0, .float .f32 0, .float .f32 0, .slice none 0 0] 32 (.pointer (some ⟨b17, 0, none⟩)) w' := (by first | exact (show vtK _ _ _ _ _ from hd.1) | exact (show vtK _ _ _ _ _ from hd.2.1) | exact (show vtK _ _ _ _ _ from hd.2.2.1)); exact (hv _ rfl).1.2)); (case hI' => (intro w' hi hd; have hv : vtK w3.heap.size [.float .f32 0, .float .f32 0, .float .f32 0, .float .f32 0, .float .f32 0, .float .f32 0, .float .f32 0, .slice none 0 0] 32 (.pointer (some ⟨b17, 0, none⟩)) w' := (by first | exact (show vtK _ _ _ _ _ from hd.1) | exact (show vtK _ _ _ _ _ from hd.2.1) | exact (show vtK _ _ _ _ _ from hd.2.2.1)); have hl : OF w3.heap.size w' (.slice q0 xs.length c0) xs := (by first | exact (show OF _ _ _ _ from hd.1) | exact (show OF _ _ _ _ from hd.2.1) | exact (show OF _ _ _ _ from hd.2.2.1) | exact (show OF _ _ _ _ from hd.2.2.2.1) | exact (show OF _ _ _ _ from hd.2.2.2.2.1) | exact (show OF _ _ _ _ from hd.2.2.2.2.2.1)); exact ⟨hi.grown (grown_setCells _ _ _ _) hi.size (fun kk hkk => by cases hkk; exact (hv _ rfl).1.1), fun b' q' c' h1' h2' => by (have e1 : b' = b17 := by simpa [eq_comm] using h1'); (have e2 : q' = q0 ∧ c' = c0 := by simpa using h2'); rw [e1, e2.1, e2.2]; exact bar_put hl hv⟩))); apply wpG_norm; (case ha => (simp only [Act.put, List.setIfInBounds_toArray, List.set_cons_zero, List.set_cons_succ]; exact rfl))); ((apply wpG_det; (case hw => exact rfl); (case hs => (intro cs b h; cases h)); (case h1 => (intro w'; go_simp <;> exact rfl))); apply wpG_norm; (case ha => (simp only [Act.put, List.setIfInBounds_toArray, List.set_cons_zero, List.set_cons_succ]; exact rfl))); refine wpG_nil ?_; intro w' hi hkk)
  rotate_left
  case hFs => repeat' (first | exact trivial | (intro u hu; trivial) | constructor)
  all_goals (try (first | kernel_rfl | rfl))
  have hq := hkk.1 b17 q0 c0 rfl (by simp)
  rename World => ws
  obtain ⟨B, hBd⟩ : ∃ B, B = w3.heap.size := ⟨_, rfl⟩
  rw [← hBd] at hq
  have hBw : w.heap.size + 2 ≤ B := by omega
  have HBS : Hid (Below w.heap.size w ws) := HB3.out.trans (hi.mono (by omega))
  have HRA : Hid (BrAt B ws b17 s p xs q0 c0 (some ⟨bl, 0, none⟩) 0 []) := ⟨hq.1, hq.2, .inr ⟨rfl, rfl⟩⟩
  have hzs : B ≤ ws.heap.size := by rw [hBd]; exact hi.size
  have HRS : Hid ((ws.cell? ⟨w.heap.size + 1, 0, none⟩ = some (.float .f32 0) ∧ ws.cell? ⟨w.heap.size + 1, 1, none⟩ = some (.float .f32 0) ∧ ws.cell? ⟨w.heap.size + 1, 2, none⟩ = some (.float .f32 0) ∧ ws.cell? ⟨w.heap.size + 1, 3, none⟩ = some (.float .f32 0) ∧ ws.cell? ⟨w.heap.size + 1, 4, none⟩ = some (.float .f32 0) ∧ ws.cell? ⟨w.heap.size + 1, 5, none⟩ = some (.float .f32 0) ∧ ws.cell? ⟨w.heap.size + 1, 6, none⟩ = some (.float .f32 0) ∧ ws.cell? ⟨w.heap.size + 1, 7, none⟩ = some (.slice none 0 0)) ∧ ∀ o, ws.frozen? ⟨w.heap.size + 1, o, none⟩ = false) := by
    obtain ⟨⟨r0, r1, r2, r3, r4, r5, r6, r7⟩, rf⟩ := HR8.out
    have hlt : w.heap.size + 1 < w3.heap.size := by omega
    exact ⟨⟨(hi.cell (p := ⟨w.heap.size + 1, 0, none⟩) hlt).trans r0, (hi.cell (p := ⟨w.heap.size + 1, 1, none⟩) hlt).trans r1, (hi.cell (p := ⟨w.heap.size + 1, 2, none⟩) hlt).trans r2, (hi.cell (p := ⟨w.heap.size + 1, 3, none⟩) hlt).trans r3, (hi.cell (p := ⟨w.heap.size + 1, 4, none⟩) hlt).trans r4, (hi.cell (p := ⟨w.heap.size + 1, 5, none⟩) hlt).trans r5, (hi.cell (p := ⟨w.heap.size + 1, 6, none⟩) hlt).trans r6, (hi.cell (p := ⟨w.heap.size + 1, 7, none⟩) hlt).trans r7⟩, fun o => (hi.frozen (p := ⟨w.heap.size + 1, o, none⟩) hlt).trans (rf o)⟩
  clear hq hkk hi hT g0 g1 g2 g3 g4 g5 g6 g7 HAT3 HR8 HB3 HS3 hz3 hBd HVB HMS HS
  go_wp2_with (first | (with_reducible refine at_list ?_; refine wpList_fop rfl rfl rfl rfl rfl ?_; intro r n hr0; have hr := hr0 _ _ (by first | with_reducible assumption | exact rfl) (by first | with_reducible assumption | exact rfl); clear hr0) | (with_reducible refine at_list ?_; refine wpList_neg rfl rfl rfl ?_; intro r hr0; have hr := hr0 _ (by first | with_reducible assumption | exact rfl); clear hr0) | (with_reducible refine at_list ?_; refine wpList_fop_g rfl rfl rfl rfl rfl ?_; intro r n hr0; have hr := hr0 _ _ (by first | with_reducible assumption | exact rfl) (by first | with_reducible assumption | exact rfl); clear hr0) | (with_reducible refine at_list ?_; refine wpList_wide_g rfl rfl Try.underlying22 Try.underlying40 rfl ?_; intro r n hr0; have hr := hr0 _ (by first | with_reducible assumption | exact rfl); clear hr0) | (with_reducible refine at_list ?_; refine wpList_wide rfl rfl rfl Try.underlying22 Try.underlying40 ?_; intro r n hr0; have hr := hr0 _ (by first | with_reducible assumption | exact rfl); clear hr0) | (go_at_call 21; refine (implValidBar_any _ _ _ _ _ (by assumption)).mono ?_; rintro e w' ⟨rfl, hb⟩; obtain ⟨hT, hk⟩ := bv_next hb (by (repeat (with_reducible first | assumption | apply Trk.alloc | apply Trk.setCell | apply Trk.drewN | apply Trk.drew | exact Trk.nil _))); simp only [SameOn, World.size_alloc, World.size_setCell, World.size_drew, size_drewN', and_true] at hk; have hsz := Below.size hb; (try simp only [World.size_alloc, World.size_setCell, World.size_drew, size_drewN'] at hsz)) | (go_at_call 91; refine (mayStep_any _ _ _ _ _ _ _ _ (by assumption)).mono ?_; rintro e w' ⟨rfl, hb⟩; obtain ⟨hT, hk⟩ := bv_next hb (by (repeat (with_reducible first | assumption | apply Trk.alloc | apply Trk.setCell | apply Trk.drewN | apply Trk.drew | exact Trk.nil _))); simp only [SameOn, World.size_alloc, World.size_setCell, World.size_drew, size_drewN', and_true] at hk; have hsz := Below.size hb; (try simp only [World.size_alloc, World.size_setCell, World.size_drew, size_drewN'] at hsz)) | (go_at_call 86; refine (within_any _ _ _ _).mono ?_; rintro e w' ⟨rfl, n, rfl⟩) | (go_at_call 93; refine (cloneF_any _ _ _ (by assumption) (by omega)).mono ?_; rintro e w' ⟨u, rfl, hb, hO⟩; obtain ⟨pu, cu, rfl⟩ := OF.shape hO; (try simp only [World.size_alloc, World.size_setCell, World.size_drew, World.drewN] at hO); obtain ⟨hT, hk⟩ := bv_next hb (by (repeat (with_reducible first | assumption | apply Trk.alloc | apply Trk.setCell | apply Trk.drewN | apply Trk.drew | exact Trk.nil _))); simp only [SameOn, World.size_alloc, World.size_setCell, World.size_drew, size_drewN', and_true] at hk; have hsz := Below.size hb; (try simp only [World.size_alloc, World.size_setCell, World.size_drew, size_drewN'] at hsz)) | (go_at_call 28; refine (implMelted_any _ _ _ _ _ (by assumption)).mono ?_; rintro e w' ⟨r, rfl, hr, hb⟩; obtain ⟨hT, hk⟩ := bv_next hb (by (repeat (with_reducible first | assumption | apply Trk.alloc | apply Trk.setCell | apply Trk.drewN | apply Trk.drew | exact Trk.nil _))); simp only [SameOn, World.size_alloc, World.size_setCell, World.size_drew, size_drewN', and_true] at hk; have hsz := Below.size hb; (try simp only [World.size_alloc, World.size_setCell, World.size_drew, size_drewN'] at hsz)))
  go_loopw [18, 50] (fun u q50 wr => ∃ (k c : Nat) (q : Option Addr) (ys : List Nat) (q0 : Option Addr) (c0 : Nat), k ≤ N ∧ q50 = .int .i64 (k : Int) ∧ u = .slice q ys.length c ∧ ys.length = k ∧ Hid (BrAt B wr b17 s p (RK k) q0 c0 q c ys) ∧ Hid (ys.map (cn .f32) = LK k) ∧ Hid (UK k = true) ∧ Below B ws wr) (fun _ q50 _ => N - (intOf q50).toNat)
  case atStart => exact ⟨0, 0, _, [], q0, c0, Nat.zero_le _, rfl, rfl, rfl, by show BrAt _ _ _ _ _ _ _ _ _ _ _; rw [HR0.out.1]; exact HRA.out, by show _ = _; rw [HR0.out.2.2]; rfl, HR0.out.2.1, Below.refl _ _⟩
  case round =>
    clear HRA
    obtain ⟨k, c, q, ys, q0, c0, hkN, rfl, rfl, hyl, HAT, HL, HUK, hB⟩ := hrel
    have hzr := hB.size
    have hBr : Below w.heap.size w wr := HBS.out.trans (hB.mono (by omega))
    obtain ⟨⟨r0, r1, r2, r3, r4, r5, r6, r7⟩, rf⟩ := HRS.out
    have hl3 : w.heap.size + 1 < B := by omega
    have r0 := (hB.cell (p := ⟨w.heap.size + 1, 0, none⟩) hl3).trans r0
    have r1 := (hB.cell (p := ⟨w.heap.size + 1, 1, none⟩) hl3).trans r1
    have r2 := (hB.cell (p := ⟨w.heap.size + 1, 2, none⟩) hl3).trans r2
    have r3 := (hB.cell (p := ⟨w.heap.size + 1, 3, none⟩) hl3).trans r3
    have r4 := (hB.cell (p := ⟨w.heap.size + 1, 4, none⟩) hl3).trans r4
    have r5 := (hB.cell (p := ⟨w.heap.size + 1, 5, none⟩) hl3).trans r5
    have r6 := (hB.cell (p := ⟨w.heap.size + 1, 6, none⟩) hl3).trans r6
    have r7 := (hB.cell (p := ⟨w.heap.size + 1, 7, none⟩) hl3).trans r7
    have rf : ∀ o, wr.frozen? ⟨w.heap.size + 1, o, none⟩ = false := fun o => (hB.frozen (p := ⟨w.heap.size + 1, o, none⟩) hl3).trans (rf o)
    have g0 := (HAT.out.1.1 0 _ rfl).1
    have g1 := (HAT.out.1.1 1 _ rfl).1
    have g2 := (HAT.out.1.1 2 _ rfl).1
    have g3 := (HAT.out.1.1 3 _ rfl).1
    have g4 := (HAT.out.1.1 4 _ rfl).1
    have g5 := (HAT.out.1.1 5 _ rfl).1
    have g6 := (HAT.out.1.1 6 _ rfl).1
    have g7 := (HAT.out.1.1 7 _ rfl).1
    have hb17 : b17 < wr.heap.size := World.block_lt_of_cell? _ _ g0
    have hbB : B ≤ b17 := HAT.out.1.2
    have hT : Trk wr [b17, w.heap.size + 1] := ((Trk.nil wr).more (by omega)).more hb17
    have HZ' : Hid (B ≤ wr.heap.size) := by show _ ≤ _; omega
    have HYL := Lib.hid hyl
    have HBr := Lib.hid hBr
    have HBW := Lib.hid hB
    have HOK : Hid (OK k = true) := HF.out.2.2.2.2 k HUK.out
    by_cases hlt : k < N
    · have hlti : (k : Int) < z := by have := HMX.out; have := HNN.out; omega
      have hwb : b17 < wr.heap.size := hb17
      have HFS : Hid (FS wr (.slice q0 (RK k).length c0) (RK k)) := OF.fs HAT.out.2.1
      have HMK : Hid (∀ w', Below wr.heap.size wr w' → Calls Try.prog 42 #[.agg #[.float .f32 s.a, .float .f32 s.b, .float .f32 s.c, .float .f32 s.d, .float .f32 s.p, .float .f32 s.l, .float .f32 p, .slice q0 (RK k).length c0], .float .f32 l, .float .f32 r, .bool b1, .bool b2, .float .f32 t] w' (BBE w' s p (RK (k + 1)) (MK k))) := fun w' h => HM.out k _ w' HOK.out (HFS.out.later h)
      have HHK := Lib.hid (HHT.out k)
      rcases hmk : MK k
      · rw [hmk] at HMK
        have HE : Hid (B0 = false) := by
          show _ = _
          rw [HU.out]
          exact HF.out.2.2.2.1 (k + 1) N (by rw [HF.out.1 k, hmk]; simp) (by omega)
        clear hmk hB hyl hzr hb17 HHK
        go_wp2_with (first | (with_reducible refine at_list ?_; refine wpList_fop rfl rfl rfl rfl rfl ?_; intro r n hr0; have hr := hr0 _ _ (by first | with_reducible assumption | exact rfl) (by first | with_reducible assumption | exact rfl); clear hr0) | (with_reducible refine at_list ?_; refine wpList_neg rfl rfl rfl ?_; intro r hr0; have hr := hr0 _ (by first | with_reducible assumption | exact rfl); clear hr0) | (with_reducible refine at_list ?_; refine wpList_fop_g rfl rfl rfl rfl rfl ?_; intro r n hr0; have hr := hr0 _ _ (by first | with_reducible assumption | exact rfl) (by first | with_reducible assumption | exact rfl); clear hr0) | (with_reducible refine at_list ?_; refine wpList_wide_g rfl rfl Try.underlying22 Try.underlying40 rfl ?_; intro r n hr0; have hr := hr0 _ (by first | with_reducible assumption | exact rfl); clear hr0) | (with_reducible refine at_list ?_; refine wpList_wide rfl rfl rfl Try.underlying22 Try.underlying40 ?_; intro r n hr0; have hr := hr0 _ (by first | with_reducible assumption | exact rfl); clear hr0) | (go_at_call 42; refine stop_here ?_) | (go_at_call 21; refine (implValidBar_any _ _ _ _ _ (by assumption)).mono ?_; rintro e w' ⟨rfl, hb⟩; obtain ⟨hT, hk⟩ := bv_next hb (by (repeat (with_reducible first | assumption | apply Trk.alloc | apply Trk.setCell | apply Trk.drewN | apply Trk.drew | exact Trk.nil _))); simp only [SameOn, World.size_alloc, World.size_setCell, World.size_drew, size_drewN', and_true] at hk; have hsz := Below.size hb; (try simp only [World.size_alloc, World.size_setCell, World.size_drew, size_drewN'] at hsz)) | (go_at_call 91; refine (mayStep_any _ _ _ _ _ _ _ _ (by assumption)).mono ?_; rintro e w' ⟨rfl, hb⟩; obtain ⟨hT, hk⟩ := bv_next hb (by (repeat (with_reducible first | assumption | apply Trk.alloc | apply Trk.setCell | apply Trk.drewN | apply Trk.drew | exact Trk.nil _))); simp only [SameOn, World.size_alloc, World.size_setCell, World.size_drew, size_drewN', and_true] at hk; have hsz := Below.size hb; (try simp only [World.size_alloc, World.size_setCell, World.size_drew, size_drewN'] at hsz)) | (go_at_call 86; refine (within_any _ _ _ _).mono ?_; rintro e w' ⟨rfl, n, rfl⟩) | (go_at_call 93; refine (cloneF_any _ _ _ (by assumption) (by omega)).mono ?_; rintro e w' ⟨u, rfl, hb, hO⟩; obtain ⟨pu, cu, rfl⟩ := OF.shape hO; (try simp only [World.size_alloc, World.size_setCell, World.size_drew, World.drewN] at hO); obtain ⟨hT, hk⟩ := bv_next hb (by (repeat (with_reducible first | assumption | apply Trk.alloc | apply Trk.setCell | apply Trk.drewN | apply Trk.drew | exact Trk.nil _))); simp only [SameOn, World.size_alloc, World.size_setCell, World.size_drew, size_drewN', and_true] at hk; have hsz := Below.size hb; (try simp only [World.size_alloc, World.size_setCell, World.size_drew, size_drewN'] at hsz)) | (go_at_call 28; refine (implMelted_any _ _ _ _ _ (by assumption)).mono ?_; rintro e w' ⟨r, rfl, hr, hb⟩; obtain ⟨hT, hk⟩ := bv_next hb (by (repeat (with_reducible first | assumption | apply Trk.alloc | apply Trk.setCell | apply Trk.drewN | apply Trk.drew | exact Trk.nil _))); simp only [SameOn, World.size_alloc, World.size_setCell, World.size_drew, size_drewN', and_true] at hk; have hsz := Below.size hb; (try simp only [World.size_alloc, World.size_setCell, World.size_drew, size_drewN'] at hsz)))
        unfold Stop
        refine (HMK.out _ (by (repeat (first | (with_reducible exact Below.refl _ _) | (with_reducible assumption) | (with_reducible refine below_then ?_ (by assumption)) | (with_reducible refine Below.trans ?_ (by assumption)) | (with_reducible refine below_drewN ?_ _) | (with_reducible apply Below.drew) | (with_reducible refine below_alloc ?_ _) | refine Below.setCell ?_ (by first | (simp; done) | (simp; omega)) _)))).mono ?_
        rintro e w' hbb
        obtain ⟨u2, rfl, hb, hO⟩ := bbe_no hbb rfl
        clear hbb
        obtain ⟨q9, c9, rfl⟩ := OF.shape hO
        obtain ⟨hT, hk⟩ := bv_next hb (by (repeat (with_reducible first | assumption | apply Trk.alloc | apply Trk.setCell | apply Trk.drewN | apply Trk.drew | exact Trk.nil _))); simp only [SameOn, World.size_alloc, World.size_setCell, World.size_drew, size_drewN', and_true] at hk; have hsz := Below.size hb; (try simp only [World.size_alloc, World.size_setCell, World.size_drew, size_drewN'] at hsz)
        have HO9 : Hid (FS w' (.slice q9 ([] : List Nat).length c9) []) := OF.fs hO
        clear hO
        go_wp2_with (first | (with_reducible refine at_list ?_; refine wpList_fop rfl rfl rfl rfl rfl ?_; intro r n hr0; have hr := hr0 _ _ (by first | with_reducible assumption | exact rfl) (by first | with_reducible assumption | exact rfl); clear hr0) | (with_reducible refine at_list ?_; refine wpList_neg rfl rfl rfl ?_; intro r hr0; have hr := hr0 _ (by first | with_reducible assumption | exact rfl); clear hr0) | (with_reducible refine at_list ?_; refine wpList_fop_g rfl rfl rfl rfl rfl ?_; intro r n hr0; have hr := hr0 _ _ (by first | with_reducible assumption | exact rfl) (by first | with_reducible assumption | exact rfl); clear hr0) | (with_reducible refine at_list ?_; refine wpList_wide_g rfl rfl Try.underlying22 Try.underlying40 rfl ?_; intro r n hr0; have hr := hr0 _ (by first | with_reducible assumption | exact rfl); clear hr0) | (with_reducible refine at_list ?_; refine wpList_wide rfl rfl rfl Try.underlying22 Try.underlying40 ?_; intro r n hr0; have hr := hr0 _ (by first | with_reducible assumption | exact rfl); clear hr0) | (go_at_call 21; refine (implValidBar_any _ _ _ _ _ (by assumption)).mono ?_; rintro e w' ⟨rfl, hb⟩; obtain ⟨hT, hk⟩ := bv_next hb (by (repeat (with_reducible first | assumption | apply Trk.alloc | apply Trk.setCell | apply Trk.drewN | apply Trk.drew | exact Trk.nil _))); simp only [SameOn, World.size_alloc, World.size_setCell, World.size_drew, size_drewN', and_true] at hk; have hsz := Below.size hb; (try simp only [World.size_alloc, World.size_setCell, World.size_drew, size_drewN'] at hsz)) | (go_at_call 91; refine (mayStep_any _ _ _ _ _ _ _ _ (by assumption)).mono ?_; rintro e w' ⟨rfl, hb⟩; obtain ⟨hT, hk⟩ := bv_next hb (by (repeat (with_reducible first | assumption | apply Trk.alloc | apply Trk.setCell | apply Trk.drewN | apply Trk.drew | exact Trk.nil _))); simp only [SameOn, World.size_alloc, World.size_setCell, World.size_drew, size_drewN', and_true] at hk; have hsz := Below.size hb; (try simp only [World.size_alloc, World.size_setCell, World.size_drew, size_drewN'] at hsz)) | (go_at_call 86; refine (within_any _ _ _ _).mono ?_; rintro e w' ⟨rfl, n, rfl⟩) | (go_at_call 93; refine (cloneF_any _ _ _ (by assumption) (by omega)).mono ?_; rintro e w' ⟨u, rfl, hb, hO⟩; obtain ⟨pu, cu, rfl⟩ := OF.shape hO; (try simp only [World.size_alloc, World.size_setCell, World.size_drew, World.drewN] at hO); obtain ⟨hT, hk⟩ := bv_next hb (by (repeat (with_reducible first | assumption | apply Trk.alloc | apply Trk.setCell | apply Trk.drewN | apply Trk.drew | exact Trk.nil _))); simp only [SameOn, World.size_alloc, World.size_setCell, World.size_drew, size_drewN', and_true] at hk; have hsz := Below.size hb; (try simp only [World.size_alloc, World.size_setCell, World.size_drew, size_drewN'] at hsz)) | (go_at_call 28; refine ((implMelted_any St0 0 (.slice q9 ([] : List Nat).length c9) [] _ (HO9.out.later (by (repeat (first | (with_reducible exact Below.refl _ _) | (with_reducible assumption) | (with_reducible refine below_then ?_ (by assumption)) | (with_reducible refine Below.trans ?_ (by assumption)) | (with_reducible refine below_drewN ?_ _) | (with_reducible apply Below.drew) | (with_reducible refine below_alloc ?_ _) | refine Below.setCell ?_ (by first | (simp; done) | (simp; omega)) _))))) ).mono ?_; rintro e w' ⟨r, rfl, hr, hb⟩; obtain ⟨hT, hk⟩ := bv_next hb (by (repeat (with_reducible first | assumption | apply Trk.alloc | apply Trk.setCell | apply Trk.drewN | apply Trk.drew | exact Trk.nil _))); simp only [SameOn, World.size_alloc, World.size_setCell, World.size_drew, size_drewN', and_true] at hk; have hsz := Below.size hb; (try simp only [World.size_alloc, World.size_setCell, World.size_drew, size_drewN'] at hsz)))
        refine bodyPost_ret (v := .tuple #[.agg #[.float .f32 0, .float .f32 0, .float .f32 0, .float .f32 0, .float .f32 0, .float .f32 0, .float .f32 0, .slice none 0 0], .slice none 0 0, .bool false]) (by simp [results, Try.results44, go_sem, *]) rfl ?_
        exact bbl_no rfl (by (repeat (first | (with_reducible exact Below.refl _ _) | (with_reducible assumption) | (with_reducible refine below_then ?_ (by assumption)) | (with_reducible refine Below.trans ?_ (by assumption)) | (with_reducible refine below_drewN ?_ _) | (with_reducible apply Below.drew) | (with_reducible refine below_alloc ?_ _) | refine Below.setCell ?_ (by first | (simp; done) | (simp; omega)) _))) HE.out
      · rw [hmk] at HMK
        replace HHK := Lib.hid (fun u w h => HHK.out u w hmk h)
        have HU1 : Hid (UK (k + 1) = fin .f32 (HT (k + 1))) := by show _ = _; rw [HF.out.1 k, HUK.out, hmk]; rfl
        have HL1 : Hid (LK (k + 1) = LK k ++ [HT (k + 1)]) := HF.out.2.1 k
        obtain ⟨R1, hR1⟩ : ∃ R1, R1 = RK (k + 1) := ⟨_, rfl⟩
        rw [← hR1] at HMK HHK
        have HR1 := Lib.hid hR1
        generalize HT (k + 1) = H1 at HHK HU1 HL1
        clear hR1 hmk
        rcases hf : fin .f32 H1
        · rw [hf] at HHK HU1
          have HE : Hid (B0 = false) := by
            show _ = _
            rw [HU.out]
            exact HF.out.2.2.2.1 (k + 1) N HU1.out (by omega)
          clear hf hB hyl hzr hb17
          go_wp2_with (first | (with_reducible refine at_list ?_; refine wpList_fop rfl rfl rfl rfl rfl ?_; intro r n hr0; have hr := hr0 _ _ (by first | with_reducible assumption | exact rfl) (by first | with_reducible assumption | exact rfl); clear hr0) | (with_reducible refine at_list ?_; refine wpList_neg rfl rfl rfl ?_; intro r hr0; have hr := hr0 _ (by first | with_reducible assumption | exact rfl); clear hr0) | (with_reducible refine at_list ?_; refine wpList_fop_g rfl rfl rfl rfl rfl ?_; intro r n hr0; have hr := hr0 _ _ (by first | with_reducible assumption | exact rfl) (by first | with_reducible assumption | exact rfl); clear hr0) | (with_reducible refine at_list ?_; refine wpList_wide_g rfl rfl Try.underlying22 Try.underlying40 rfl ?_; intro r n hr0; have hr := hr0 _ (by first | with_reducible assumption | exact rfl); clear hr0) | (with_reducible refine at_list ?_; refine wpList_wide rfl rfl rfl Try.underlying22 Try.underlying40 ?_; intro r n hr0; have hr := hr0 _ (by first | with_reducible assumption | exact rfl); clear hr0) | (go_at_call 42; refine stop_here ?_) | (go_at_call 21; refine (implValidBar_any _ _ _ _ _ (by assumption)).mono ?_; rintro e w' ⟨rfl, hb⟩; obtain ⟨hT, hk⟩ := bv_next hb (by (repeat (with_reducible first | assumption | apply Trk.alloc | apply Trk.setCell | apply Trk.drewN | apply Trk.drew | exact Trk.nil _))); simp only [SameOn, World.size_alloc, World.size_setCell, World.size_drew, size_drewN', and_true] at hk; have hsz := Below.size hb; (try simp only [World.size_alloc, World.size_setCell, World.size_drew, size_drewN'] at hsz)) | (go_at_call 91; refine (mayStep_any _ _ _ _ _ _ _ _ (by assumption)).mono ?_; rintro e w' ⟨rfl, hb⟩; obtain ⟨hT, hk⟩ := bv_next hb (by (repeat (with_reducible first | assumption | apply Trk.alloc | apply Trk.setCell | apply Trk.drewN | apply Trk.drew | exact Trk.nil _))); simp only [SameOn, World.size_alloc, World.size_setCell, World.size_drew, size_drewN', and_true] at hk; have hsz := Below.size hb; (try simp only [World.size_alloc, World.size_setCell, World.size_drew, size_drewN'] at hsz)) | (go_at_call 86; refine (within_any _ _ _ _).mono ?_; rintro e w' ⟨rfl, n, rfl⟩) | (go_at_call 93; refine (cloneF_any _ _ _ (by assumption) (by omega)).mono ?_; rintro e w' ⟨u, rfl, hb, hO⟩; obtain ⟨pu, cu, rfl⟩ := OF.shape hO; (try simp only [World.size_alloc, World.size_setCell, World.size_drew, World.drewN] at hO); obtain ⟨hT, hk⟩ := bv_next hb (by (repeat (with_reducible first | assumption | apply Trk.alloc | apply Trk.setCell | apply Trk.drewN | apply Trk.drew | exact Trk.nil _))); simp only [SameOn, World.size_alloc, World.size_setCell, World.size_drew, size_drewN', and_true] at hk; have hsz := Below.size hb; (try simp only [World.size_alloc, World.size_setCell, World.size_drew, size_drewN'] at hsz)) | (go_at_call 28; refine (implMelted_any _ _ _ _ _ (by assumption)).mono ?_; rintro e w' ⟨r, rfl, hr, hb⟩; obtain ⟨hT, hk⟩ := bv_next hb (by (repeat (with_reducible first | assumption | apply Trk.alloc | apply Trk.setCell | apply Trk.drewN | apply Trk.drew | exact Trk.nil _))); simp only [SameOn, World.size_alloc, World.size_setCell, World.size_drew, size_drewN', and_true] at hk; have hsz := Below.size hb; (try simp only [World.size_alloc, World.size_setCell, World.size_drew, size_drewN'] at hsz)))
          unfold Stop
          refine (HMK.out _ (by (repeat (first | (with_reducible exact Below.refl _ _) | (with_reducible assumption) | (with_reducible refine below_then ?_ (by assumption)) | (with_reducible refine Below.trans ?_ (by assumption)) | (with_reducible refine below_drewN ?_ _) | (with_reducible apply Below.drew) | (with_reducible refine below_alloc ?_ _) | refine Below.setCell ?_ (by first | (simp; done) | (simp; omega)) _)))).mono ?_
          rintro e w' hbb
          obtain ⟨u2, rfl, hb, hO⟩ := bbe_yes hbb rfl
          clear hbb
          obtain ⟨q9, c9, rfl⟩ := OF.shape hO
          obtain ⟨hT, hk⟩ := bv_next hb (by (repeat (with_reducible first | assumption | apply Trk.alloc | apply Trk.setCell | apply Trk.drewN | apply Trk.drew | exact Trk.nil _))); simp only [SameOn, World.size_alloc, World.size_setCell, World.size_drew, size_drewN', and_true] at hk; have hsz := Below.size hb; (try simp only [World.size_alloc, World.size_setCell, World.size_drew, size_drewN'] at hsz)
          have HO9 : Hid (FS w' (.slice q9 R1.length c9) R1) := OF.fs hO
          clear hO
          go_wp2_with (first | (with_reducible refine at_list ?_; refine wpList_fop rfl rfl rfl rfl rfl ?_; intro r n hr0; have hr := hr0 _ _ (by first | with_reducible assumption | exact rfl) (by first | with_reducible assumption | exact rfl); clear hr0) | (with_reducible refine at_list ?_; refine wpList_neg rfl rfl rfl ?_; intro r hr0; have hr := hr0 _ (by first | with_reducible assumption | exact rfl); clear hr0) | (with_reducible refine at_list ?_; refine wpList_fop_g rfl rfl rfl rfl rfl ?_; intro r n hr0; have hr := hr0 _ _ (by first | with_reducible assumption | exact rfl) (by first | with_reducible assumption | exact rfl); clear hr0) | (with_reducible refine at_list ?_; refine wpList_wide_g rfl rfl Try.underlying22 Try.underlying40 rfl ?_; intro r n hr0; have hr := hr0 _ (by first | with_reducible assumption | exact rfl); clear hr0) | (with_reducible refine at_list ?_; refine wpList_wide rfl rfl rfl Try.underlying22 Try.underlying40 ?_; intro r n hr0; have hr := hr0 _ (by first | with_reducible assumption | exact rfl); clear hr0) | (go_at_call 21; refine (implValidBar_any _ _ _ _ _ (by assumption)).mono ?_; rintro e w' ⟨rfl, hb⟩; obtain ⟨hT, hk⟩ := bv_next hb (by (repeat (with_reducible first | assumption | apply Trk.alloc | apply Trk.setCell | apply Trk.drewN | apply Trk.drew | exact Trk.nil _))); simp only [SameOn, World.size_alloc, World.size_setCell, World.size_drew, size_drewN', and_true] at hk; have hsz := Below.size hb; (try simp only [World.size_alloc, World.size_setCell, World.size_drew, size_drewN'] at hsz)) | (go_at_call 91; refine (mayStep_any _ _ _ _ _ _ _ _ (by assumption)).mono ?_; rintro e w' ⟨rfl, hb⟩; obtain ⟨hT, hk⟩ := bv_next hb (by (repeat (with_reducible first | assumption | apply Trk.alloc | apply Trk.setCell | apply Trk.drewN | apply Trk.drew | exact Trk.nil _))); simp only [SameOn, World.size_alloc, World.size_setCell, World.size_drew, size_drewN', and_true] at hk; have hsz := Below.size hb; (try simp only [World.size_alloc, World.size_setCell, World.size_drew, size_drewN'] at hsz)) | (go_at_call 86; refine (within_any _ _ _ _).mono ?_; rintro e w' ⟨rfl, n, rfl⟩) | (go_at_call 93; refine (cloneF_any _ _ _ (by assumption) (by omega)).mono ?_; rintro e w' ⟨u, rfl, hb, hO⟩; obtain ⟨pu, cu, rfl⟩ := OF.shape hO; (try simp only [World.size_alloc, World.size_setCell, World.size_drew, World.drewN] at hO); obtain ⟨hT, hk⟩ := bv_next hb (by (repeat (with_reducible first | assumption | apply Trk.alloc | apply Trk.setCell | apply Trk.drewN | apply Trk.drew | exact Trk.nil _))); simp only [SameOn, World.size_alloc, World.size_setCell, World.size_drew, size_drewN', and_true] at hk; have hsz := Below.size hb; (try simp only [World.size_alloc, World.size_setCell, World.size_drew, size_drewN'] at hsz)) | (go_at_call 28; refine ((HHK.out _ _ (HO9.out.later (by (repeat (first | (with_reducible exact Below.refl _ _) | (with_reducible assumption) | (with_reducible refine below_then ?_ (by assumption)) | (with_reducible refine Below.trans ?_ (by assumption)) | (with_reducible refine below_drewN ?_ _) | (with_reducible apply Below.drew) | (with_reducible refine below_alloc ?_ _) | refine Below.setCell ?_ (by first | (simp; done) | (simp; omega)) _))))) ).mono ?_; rintro e w' ⟨r, rfl, hr, hb⟩; obtain ⟨hT, hk⟩ := bv_next hb (by (repeat (with_reducible first | assumption | apply Trk.alloc | apply Trk.setCell | apply Trk.drewN | apply Trk.drew | exact Trk.nil _))); simp only [SameOn, World.size_alloc, World.size_setCell, World.size_drew, size_drewN', and_true] at hk; have hsz := Below.size hb; (try simp only [World.size_alloc, World.size_setCell, World.size_drew, size_drewN'] at hsz)))
          refine bodyPost_ret (v := .tuple #[.agg #[.float .f32 0, .float .f32 0, .float .f32 0, .float .f32 0, .float .f32 0, .float .f32 0, .float .f32 0, .slice none 0 0], .slice none 0 0, .bool false]) (by simp [results, Try.results44, go_sem, *]) rfl ?_
          exact bbl_no rfl (by (repeat (first | (with_reducible exact Below.refl _ _) | (with_reducible assumption) | (with_reducible refine below_then ?_ (by assumption)) | (with_reducible refine Below.trans ?_ (by assumption)) | (with_reducible refine below_drewN ?_ _) | (with_reducible apply Below.drew) | (with_reducible refine below_alloc ?_ _) | refine Below.setCell ?_ (by first | (simp; done) | (simp; omega)) _))) HE.out
        · rw [hf] at HHK HU1
          rw [chk_yes hf] at HHK
          have hyn : ys.length ≤ 128 := by have := HNN.out; omega
          have HYN := Lib.hid hyn
          clear hf hB hyl hzr hb17 hyn
          go_wp2_with (first | (with_reducible refine at_list ?_; refine wpList_fop rfl rfl rfl rfl rfl ?_; intro r n hr0; have hr := hr0 _ _ (by first | with_reducible assumption | exact rfl) (by first | with_reducible assumption | exact rfl); clear hr0) | (with_reducible refine at_list ?_; refine wpList_neg rfl rfl rfl ?_; intro r hr0; have hr := hr0 _ (by first | with_reducible assumption | exact rfl); clear hr0) | (with_reducible refine at_list ?_; refine wpList_fop_g rfl rfl rfl rfl rfl ?_; intro r n hr0; have hr := hr0 _ _ (by first | with_reducible assumption | exact rfl) (by first | with_reducible assumption | exact rfl); clear hr0) | (with_reducible refine at_list ?_; refine wpList_wide_g rfl rfl Try.underlying22 Try.underlying40 rfl ?_; intro r n hr0; have hr := hr0 _ (by first | with_reducible assumption | exact rfl); clear hr0) | (with_reducible refine at_list ?_; refine wpList_wide rfl rfl rfl Try.underlying22 Try.underlying40 ?_; intro r n hr0; have hr := hr0 _ (by first | with_reducible assumption | exact rfl); clear hr0) | (go_at_call 42; refine stop_here ?_) | (go_at_call 21; refine (implValidBar_any _ _ _ _ _ (by assumption)).mono ?_; rintro e w' ⟨rfl, hb⟩; obtain ⟨hT, hk⟩ := bv_next hb (by (repeat (with_reducible first | assumption | apply Trk.alloc | apply Trk.setCell | apply Trk.drewN | apply Trk.drew | exact Trk.nil _))); simp only [SameOn, World.size_alloc, World.size_setCell, World.size_drew, size_drewN', and_true] at hk; have hsz := Below.size hb; (try simp only [World.size_alloc, World.size_setCell, World.size_drew, size_drewN'] at hsz)) | (go_at_call 91; refine (mayStep_any _ _ _ _ _ _ _ _ (by assumption)).mono ?_; rintro e w' ⟨rfl, hb⟩; obtain ⟨hT, hk⟩ := bv_next hb (by (repeat (with_reducible first | assumption | apply Trk.alloc | apply Trk.setCell | apply Trk.drewN | apply Trk.drew | exact Trk.nil _))); simp only [SameOn, World.size_alloc, World.size_setCell, World.size_drew, size_drewN', and_true] at hk; have hsz := Below.size hb; (try simp only [World.size_alloc, World.size_setCell, World.size_drew, size_drewN'] at hsz)) | (go_at_call 86; refine (within_any _ _ _ _).mono ?_; rintro e w' ⟨rfl, n, rfl⟩) | (go_at_call 93; refine (cloneF_any _ _ _ (by assumption) (by omega)).mono ?_; rintro e w' ⟨u, rfl, hb, hO⟩; obtain ⟨pu, cu, rfl⟩ := OF.shape hO; (try simp only [World.size_alloc, World.size_setCell, World.size_drew, World.drewN] at hO); obtain ⟨hT, hk⟩ := bv_next hb (by (repeat (with_reducible first | assumption | apply Trk.alloc | apply Trk.setCell | apply Trk.drewN | apply Trk.drew | exact Trk.nil _))); simp only [SameOn, World.size_alloc, World.size_setCell, World.size_drew, size_drewN', and_true] at hk; have hsz := Below.size hb; (try simp only [World.size_alloc, World.size_setCell, World.size_drew, size_drewN'] at hsz)) | (go_at_call 28; refine (implMelted_any _ _ _ _ _ (by assumption)).mono ?_; rintro e w' ⟨r, rfl, hr, hb⟩; obtain ⟨hT, hk⟩ := bv_next hb (by (repeat (with_reducible first | assumption | apply Trk.alloc | apply Trk.setCell | apply Trk.drewN | apply Trk.drew | exact Trk.nil _))); simp only [SameOn, World.size_alloc, World.size_setCell, World.size_drew, size_drewN', and_true] at hk; have hsz := Below.size hb; (try simp only [World.size_alloc, World.size_setCell, World.size_drew, size_drewN'] at hsz)))
          unfold Stop
          refine (HMK.out _ (by (repeat (first | (with_reducible exact Below.refl _ _) | (with_reducible assumption) | (with_reducible refine below_then ?_ (by assumption)) | (with_reducible refine Below.trans ?_ (by assumption)) | (with_reducible refine below_drewN ?_ _) | (with_reducible apply Below.drew) | (with_reducible refine below_alloc ?_ _) | refine Below.setCell ?_ (by first | (simp; done) | (simp; omega)) _)))).mono ?_
          rintro e w' hbb
          obtain ⟨u2, rfl, hb, hO⟩ := bbe_yes hbb rfl
          clear hbb
          obtain ⟨q1, c1, rfl⟩ := OF.shape hO
          obtain ⟨hT, hk⟩ := bv_next hb (by (repeat (with_reducible first | assumption | apply Trk.alloc | apply Trk.setCell | apply Trk.drewN | apply Trk.drew | exact Trk.nil _))); simp only [SameOn, World.size_alloc, World.size_setCell, World.size_drew, size_drewN', and_true] at hk; have hsz := Below.size hb; (try simp only [World.size_alloc, World.size_setCell, World.size_drew, size_drewN'] at hsz)
          have HX := Lib.hid hO
          have HXF : Hid (FS w' (.slice q1 R1.length c1) R1) := OF.fs hO
          have HB1 := Lib.hid hb
          clear hO
          rename World => w1
          go_wp2_with (first | (with_reducible refine at_list ?_; refine wpList_fop rfl rfl rfl rfl rfl ?_; intro r n hr0; have hr := hr0 _ _ (by first | with_reducible assumption | exact rfl) (by first | with_reducible assumption | exact rfl); clear hr0) | (with_reducible refine at_list ?_; refine wpList_neg rfl rfl rfl ?_; intro r hr0; have hr := hr0 _ (by first | with_reducible assumption | exact rfl); clear hr0) | (with_reducible refine at_list ?_; refine wpList_fop_g rfl rfl rfl rfl rfl ?_; intro r n hr0; have hr := hr0 _ _ (by first | with_reducible assumption | exact rfl) (by first | with_reducible assumption | exact rfl); clear hr0) | (with_reducible refine at_list ?_; refine wpList_wide_g rfl rfl Try.underlying22 Try.underlying40 rfl ?_; intro r n hr0; have hr := hr0 _ (by first | with_reducible assumption | exact rfl); clear hr0) | (with_reducible refine at_list ?_; refine wpList_wide rfl rfl rfl Try.underlying22 Try.underlying40 ?_; intro r n hr0; have hr := hr0 _ (by first | with_reducible assumption | exact rfl); clear hr0) | (go_at_call 28; refine stop_here ?_) | (go_at_call 21; refine (implValidBar_any _ _ _ _ _ (by assumption)).mono ?_; rintro e w' ⟨rfl, hb⟩; obtain ⟨hT, hk⟩ := bv_next hb (by (repeat (with_reducible first | assumption | apply Trk.alloc | apply Trk.setCell | apply Trk.drewN | apply Trk.drew | exact Trk.nil _))); simp only [SameOn, World.size_alloc, World.size_setCell, World.size_drew, size_drewN', and_true] at hk; have hsz := Below.size hb; (try simp only [World.size_alloc, World.size_setCell, World.size_drew, size_drewN'] at hsz)) | (go_at_call 91; refine (mayStep_any _ _ _ _ _ _ _ _ (by assumption)).mono ?_; rintro e w' ⟨rfl, hb⟩; obtain ⟨hT, hk⟩ := bv_next hb (by (repeat (with_reducible first | assumption | apply Trk.alloc | apply Trk.setCell | apply Trk.drewN | apply Trk.drew | exact Trk.nil _))); simp only [SameOn, World.size_alloc, World.size_setCell, World.size_drew, size_drewN', and_true] at hk; have hsz := Below.size hb; (try simp only [World.size_alloc, World.size_setCell, World.size_drew, size_drewN'] at hsz)) | (go_at_call 86; refine (within_any _ _ _ _).mono ?_; rintro e w' ⟨rfl, n, rfl⟩) | (go_at_call 93; refine (cloneF_any _ _ _ (by assumption) (by omega)).mono ?_; rintro e w' ⟨u, rfl, hb, hO⟩; obtain ⟨pu, cu, rfl⟩ := OF.shape hO; (try simp only [World.size_alloc, World.size_setCell, World.size_drew, World.drewN] at hO); obtain ⟨hT, hk⟩ := bv_next hb (by (repeat (with_reducible first | assumption | apply Trk.alloc | apply Trk.setCell | apply Trk.drewN | apply Trk.drew | exact Trk.nil _))); simp only [SameOn, World.size_alloc, World.size_setCell, World.size_drew, size_drewN', and_true] at hk; have hsz := Below.size hb; (try simp only [World.size_alloc, World.size_setCell, World.size_drew, size_drewN'] at hsz)) | (go_at_call 28; refine (implMelted_any _ _ _ _ _ (by assumption)).mono ?_; rintro e w' ⟨r, rfl, hr, hb⟩; obtain ⟨hT, hk⟩ := bv_next hb (by (repeat (with_reducible first | assumption | apply Trk.alloc | apply Trk.setCell | apply Trk.drewN | apply Trk.drew | exact Trk.nil _))); simp only [SameOn, World.size_alloc, World.size_setCell, World.size_drew, size_drewN', and_true] at hk; have hsz := Below.size hb; (try simp only [World.size_alloc, World.size_setCell, World.size_drew, size_drewN'] at hsz)))
          unfold Stop
          refine (HHK.out _ _ (HXF.out.later (by (repeat (first | (with_reducible exact Below.refl _ _) | (with_reducible assumption) | (with_reducible refine below_then ?_ (by assumption)) | (with_reducible refine Below.trans ?_ (by assumption)) | (with_reducible refine below_drewN ?_ _) | (with_reducible apply Below.drew) | (with_reducible refine below_alloc ?_ _) | refine Below.setCell ?_ (by first | (simp; done) | (simp; omega)) _))))).mono ?_
          rintro e w' ⟨h3', rfl, hr3, hb⟩
          obtain ⟨hT, hk⟩ := bv_next hb (by (repeat (with_reducible first | assumption | apply Trk.alloc | apply Trk.setCell | apply Trk.drewN | apply Trk.drew | exact Trk.nil _))); simp only [SameOn, World.size_alloc, World.size_setCell, World.size_drew, size_drewN', and_true] at hk; have hsz := Below.size hb; (try simp only [World.size_alloc, World.size_setCell, World.size_drew, size_drewN'] at hsz)
          have HR3 := Lib.hid hr3
          clear hr3
          go_wp2_with (first | (with_reducible refine at_list ?_; refine wpList_fop rfl rfl rfl rfl rfl ?_; intro r n hr0; have hr := hr0 _ _ (by first | with_reducible assumption | exact rfl) (by first | with_reducible assumption | exact rfl); clear hr0) | (with_reducible refine at_list ?_; refine wpList_neg rfl rfl rfl ?_; intro r hr0; have hr := hr0 _ (by first | with_reducible assumption | exact rfl); clear hr0) | (with_reducible refine at_list ?_; refine wpList_fop_g rfl rfl rfl rfl rfl ?_; intro r n hr0; have hr := hr0 _ _ (by first | with_reducible assumption | exact rfl) (by first | with_reducible assumption | exact rfl); clear hr0) | (with_reducible refine at_list ?_; refine wpList_wide_g rfl rfl Try.underlying22 Try.underlying40 rfl ?_; intro r n hr0; have hr := hr0 _ (by first | with_reducible assumption | exact rfl); clear hr0) | (with_reducible refine at_list ?_; refine wpList_wide rfl rfl rfl Try.underlying22 Try.underlying40 ?_; intro r n hr0; have hr := hr0 _ (by first | with_reducible assumption | exact rfl); clear hr0) | (go_at_call 21; refine (implValidBar_any _ _ _ _ _ (by assumption)).mono ?_; rintro e w' ⟨rfl, hb⟩; obtain ⟨hT, hk⟩ := bv_next hb (by (repeat (with_reducible first | assumption | apply Trk.alloc | apply Trk.setCell | apply Trk.drewN | apply Trk.drew | exact Trk.nil _))); simp only [SameOn, World.size_alloc, World.size_setCell, World.size_drew, size_drewN', and_true] at hk; have hsz := Below.size hb; (try simp only [World.size_alloc, World.size_setCell, World.size_drew, size_drewN'] at hsz)) | (go_at_call 91; refine (mayStep_any _ _ _ _ _ _ _ _ (by assumption)).mono ?_; rintro e w' ⟨rfl, hb⟩; obtain ⟨hT, hk⟩ := bv_next hb (by (repeat (with_reducible first | assumption | apply Trk.alloc | apply Trk.setCell | apply Trk.drewN | apply Trk.drew | exact Trk.nil _))); simp only [SameOn, World.size_alloc, World.size_setCell, World.size_drew, size_drewN', and_true] at hk; have hsz := Below.size hb; (try simp only [World.size_alloc, World.size_setCell, World.size_drew, size_drewN'] at hsz)) | (go_at_call 86; refine (within_any _ _ _ _).mono ?_; rintro e w' ⟨rfl, n, rfl⟩) | (go_at_call 93; refine (cloneF_any _ _ _ (by assumption) (by omega)).mono ?_; rintro e w' ⟨u, rfl, hb, hO⟩; obtain ⟨pu, cu, rfl⟩ := OF.shape hO; (try simp only [World.size_alloc, World.size_setCell, World.size_drew, World.drewN] at hO); obtain ⟨hT, hk⟩ := bv_next hb (by (repeat (with_reducible first | assumption | apply Trk.alloc | apply Trk.setCell | apply Trk.drewN | apply Trk.drew | exact Trk.nil _))); simp only [SameOn, World.size_alloc, World.size_setCell, World.size_drew, size_drewN', and_true] at hk; have hsz := Below.size hb; (try simp only [World.size_alloc, World.size_setCell, World.size_drew, size_drewN'] at hsz)) | (go_at_call 28; refine (implMelted_any _ _ _ _ _ (by assumption)).mono ?_; rintro e w' ⟨r, rfl, hr, hb⟩; obtain ⟨hT, hk⟩ := bv_next hb (by (repeat (with_reducible first | assumption | apply Trk.alloc | apply Trk.setCell | apply Trk.drewN | apply Trk.drew | exact Trk.nil _))); simp only [SameOn, World.size_alloc, World.size_setCell, World.size_drew, size_drewN', and_true] at hk; have hsz := Below.size hb; (try simp only [World.size_alloc, World.size_setCell, World.size_drew, size_drewN'] at hsz)))
          refine wp_named ?_
          intro w3 hw3
          obtain ⟨b19, h19, H3, HX3, H19⟩ : ∃ b19, b19 = w1.heap.size ∧ Hid (Below wr.heap.size wr w3 ∧ wr.heap.size ≤ w3.heap.size) ∧ Hid (OF wr.heap.size w3 (.slice q1 R1.length c1) R1) ∧ Hid ((∀ u, u = w3 → (((u.cell? ⟨b19, 0, none⟩ = some (.float .f32 s.a) ∧ u.cell? ⟨b19, 1, none⟩ = some (.float .f32 s.b)) ∧ u.cell? ⟨b19, 2, none⟩ = some (.float .f32 s.c) ∧ u.cell? ⟨b19, 3, none⟩ = some (.float .f32 s.d)) ∧ (u.cell? ⟨b19, 4, none⟩ = some (.float .f32 s.p) ∧ u.cell? ⟨b19, 5, none⟩ = some (.float .f32 s.l)) ∧ u.cell? ⟨b19, 6, none⟩ = some (.float .f32 p) ∧ u.cell? ⟨b19, 7, none⟩ = some (.slice q1 R1.length c1))) ∧ wr.heap.size ≤ b19) := by
            have hz1 := HB1.out.size
            have hz2 : w1.heap.size ≤ w3.heap.size := by rw [hw3]; have h9 := hb.size; simp only [World.size_alloc, World.size_setCell, World.size_drew, size_drewN'] at h9 ⊢; omega
            have hbe : Below w1.heap.size w1 w3 := by rw [hw3]; (repeat (first | (with_reducible exact Below.refl _ _) | (with_reducible assumption) | (with_reducible refine below_then ?_ (by assumption)) | (with_reducible refine Below.trans ?_ (by assumption)) | (with_reducible refine below_drewN ?_ _) | (with_reducible apply Below.drew) | (with_reducible refine below_alloc ?_ _) | refine Below.setCell ?_ (by first | (simp; done) | (simp; omega)) _))
            refine ⟨w1.heap.size, rfl, ⟨HB1.out.trans (hbe.mono hz1), by omega⟩, HX.out.later hbe, ?_, hz1⟩
            rintro u rfl
            rw [hw3]
            exact ⟨⟨⟨by go_simp, by go_simp⟩, by go_simp, by go_simp⟩, ⟨by go_simp, by go_simp⟩, by go_simp, by go_simp⟩
          rw [← h19]
          obtain ⟨g9, hg1, hg2, hg3⟩ := HAT.out.2.2.row
          have HO17 : Hid (owned w3 b17 (barC s p (.slice q0 (RK k).length c0))) := HAT.out.1.1.later H3.out.1
          have HNE := Lib.hid hg1
          have HGL : Hid (∀ kk, g9 = some kk → kk < wr.heap.size) := fun kk hkk => (hg2 kk hkk).2
          have HGB : Hid (∀ kk, g9 = some kk → B ≤ kk) := fun kk hkk => (hg2 kk hkk).1
          have HVV : Hid (∀ u, Below w3.heap.size w3 u → ((OF B u (.slice q ys.length c) ys ∧ (Value.slice q ys.length c).ownBlock = g9) ∨ (ys = [] ∧ g9 = none ∧ ∃ p, (Value.slice q ys.length c) = .slice p 0 0))) := fun u hu => hg3.imp (fun h => ⟨(h.1.later H3.out.1).later hu, h.2⟩) id
          have hl19 : b19 < w3.heap.size := World.block_lt_of_cell? _ _ (H19.out.1 w3 rfl).1.1.1
          have h193 := H19.out.2
          have HBZ : Hid (B ≤ w3.heap.size ∧ b17 < wr.heap.size ∧ b17 < w3.heap.size ∧ b19 ≠ b17 ∧ some b19 ≠ g9) := ⟨Nat.le_trans HZ'.out H3.out.2, hwb, by omega, by omega, fun e => by have := HGL.out b19 e.symm; omega⟩
          have HC19 : Hid (∀ u : World, u.heap[b19]? = w3.heap[b19]? → (((u.cell? ⟨b19, 0, none⟩ = some (.float .f32 s.a) ∧ u.cell? ⟨b19, 1, none⟩ = some (.float .f32 s.b)) ∧ u.cell? ⟨b19, 2, none⟩ = some (.float .f32 s.c) ∧ u.cell? ⟨b19, 3, none⟩ = some (.float .f32 s.d)) ∧ (u.cell? ⟨b19, 4, none⟩ = some (.float .f32 s.p) ∧ u.cell? ⟨b19, 5, none⟩ = some (.float .f32 s.l)) ∧ u.cell? ⟨b19, 6, none⟩ = some (.float .f32 p) ∧ u.cell? ⟨b19, 7, none⟩ = some (.slice q1 R1.length c1))) := fun u hu => by
            obtain ⟨⟨⟨k0, k1⟩, k2, k3⟩, ⟨k4, k5⟩, k6, k7⟩ := H19.out.1 w3 rfl
            have cc := fun j => World.cell?_of_block (w := w3) (w' := u) (a := ⟨b19, j, none⟩) hu
            exact ⟨⟨⟨(cc 0).trans k0, (cc 1).trans k1⟩, (cc 2).trans k2, (cc 3).trans k3⟩, ⟨(cc 4).trans k4, (cc 5).trans k5⟩, (cc 6).trans k6, (cc 7).trans k7⟩
          have HL19 := Lib.hid hl19
          clear hw3 hb hT hk hsz h19 h193 hl19 hg1 hg2 hg3 r0 r1 r2 r3 r4 r5 r6 r7 rf g0 g1 g2 g3 g4 g5 g6 g7
          (apply wp_region_planG (F := (fun u => u.heap[b19]? = w3.heap[b19]?)) (fun u => Below w3.heap.size w3 u) (fun a c h hb => h.trans (hb.mono h.size)); (case hW => exact (by first | assumption | exact Below.refl _ _)); (case hF0 => exact (by (intro u h; exact h.block b19 HL19.out))); ((apply wpG_any; (case hw => exact rfl); (case h1 => (intro w' hb; obtain ⟨⟨⟨x0, x1⟩, x2, x3⟩, ⟨x4, x5⟩, x6, x7⟩ := HC19.out w' hb; go_simp <;> exact rfl))); apply wpG_norm; (case ha => (simp only [Act.put, List.setIfInBounds_toArray, List.set_cons_zero, List.set_cons_succ]; exact rfl))); ((apply wpG_det; (case hw => exact rfl); (case hs => (intro cs b h; cases h)); (case h1 => (intro w'; go_simp <;> exact rfl))); apply wpG_norm; (case ha => (simp only [Act.put, List.setIfInBounds_toArray, List.set_cons_zero, List.set_cons_succ]; exact rfl))); ((apply wpG_det; (case hw => exact rfl); (case hs => (intro cs b h; cases h)); (case h1 => (intro w'; go_simp <;> exact rfl))); apply wpG_norm; (case ha => (simp only [Act.put, List.setIfInBounds_toArray, List.set_cons_zero, List.set_cons_succ]; exact rfl))); ((apply wpG_lit1 (B := w3.heap.size) (x := .float .f32 h3'); (case hx => (first | exact rfl | (simp [Op.operands]; exact rfl))); (case hw => exact rfl); (case hB => (intro u h; exact h.size)); (case h1 => (intro w'; go_simp <;> exact rfl)); intro bl); apply wpG_norm; (case ha => (simp only [Act.put, List.setIfInBounds_toArray, List.set_cons_zero, List.set_cons_succ]; exact rfl))); ((apply wpG_appH B w3.heap.size g9 ys h3' (fun u => w3.grownBy u g9) (fun a c h hb => grown_later h hb) (v := .slice q ys.length c) (b := bl); (case ho => exact rfl); (case hs => exact rfl); (case hx => exact rfl); (case hw => exact rfl); (case hk => (intro w' hi hd; exact ⟨⟨HVV.out w' hi, (hd.1.2 0 _ rfl).1⟩, Nat.le_trans HBZ.out.1 hi.size, hi.size⟩)); (case hn => (have h9 := HYN.out; omega)); (case hI' => (intro a c hi hg; exact below_grown2 hi hg)); intro q2 c2); apply wpG_norm; (case ha => (simp only [Act.put, List.setIfInBounds_toArray, List.set_cons_zero, List.set_cons_succ]; exact rfl))); ((apply wpG_putM (barC s p (.slice q0 (RK k).length c0)) (brMk B b17 s p R1 q1 c1 (ys ++ [h3'])) (brMk_keeps _ _ _ _ _ _ _ _) (fun u => K2 w3 g9 b17 u) (fun a c h hb => h.later hb) (b := b17) (vs := #[.float .f32 s.a, .float .f32 s.b, .float .f32 s.c, .float .f32 s.d, .float .f32 s.p, .float .f32 s.l, .float .f32 p, .slice q1 R1.length c1]) (x0 := [.pointer (some ⟨b17, 0, none⟩), .agg #[.float .f32 s.a, .float .f32 s.b, .float .f32 s.c, .float .f32 s.d, .float .f32 s.p, .float .f32 s.l, .float .f32 p, .slice q1 R1.length c1], .agg #[.float .f32 s.a, .float .f32 s.b, .float .f32 s.c, .float .f32 s.d, .float .f32 s.p, .float .f32 s.l, .float .f32 p, .slice q1 R1.length c1], .slice q2 (ys ++ [h3']).length c2]); (case hox => (first | exact rfl | kernel_rfl)); (case ho => exact rfl); (case hx => exact rfl); (case hy => exact rfl); (case hn => exact rfl); (case hi => kernel_rfl); (case h2 => exact rfl); (case hw => exact rfl); (case hk => (intro w' hi; exact owned_kept HO17.out hi HBZ.out.2.2.1 HNE.out)); (case hI' => (intro w' hi hd; refine ⟨K2.of hi 0 _, fun q c hm => ?_⟩; have hm2 : q = q2 ∧ c = c2 := (by simpa using hm); rw [hm2.1, hm2.2]; exact brAt_put hi HO17.out hbB HNE.out HX3.out HBZ.out.2.1 HZ'.out HGL.out hd.1))); apply wpG_norm; (case ha => (simp only [Act.put, List.setIfInBounds_toArray, List.set_cons_zero, List.set_cons_succ]; exact rfl))); ((apply wpG_det; (case hw => exact rfl); (case hs => (intro cs b h; cases h)); (case h1 => (intro w'; go_simp <;> exact rfl))); apply wpG_norm; (case ha => (simp only [Act.put, List.setIfInBounds_toArray, List.set_cons_zero, List.set_cons_succ]; exact rfl))); refine wpG_nil ?_; intro w' hi hkk)
          rotate_left
          case hFs => repeat' (first | exact trivial | (intro u hu; exact hu) | (intro u hu; exact World.grownBy.block hu b19 HL19.out HBZ.out.2.2.2.2) | (intro u hu; exact K2.block hu b19 HL19.out HBZ.out.2.2.2.2 HBZ.out.2.2.2.1) | constructor)
          all_goals (try (first | kernel_rfl | rfl))
          have hq := hkk.1 q2 c2 (by simp)
          have HQ := Lib.hid hq
          have HBL : Hid (Below B ws w') := (HBW.out.trans (H3.out.1.mono HZ'.out)).trans (K2.below hi HBZ.out.1 HGB.out hbB)
          clear hq hkk hi
          have HMAP : Hid ((ys ++ [h3']).map (cn .f32) = LK (k + 1)) := by show _ = _; rw [HL1.out, List.map_append, HL.out]; simp [HR3.out]
          rw [HR1.out] at HQ
          go_wp2_with (first | (with_reducible refine at_list ?_; refine wpList_fop rfl rfl rfl rfl rfl ?_; intro r n hr0; have hr := hr0 _ _ (by first | with_reducible assumption | exact rfl) (by first | with_reducible assumption | exact rfl); clear hr0) | (with_reducible refine at_list ?_; refine wpList_neg rfl rfl rfl ?_; intro r hr0; have hr := hr0 _ (by first | with_reducible assumption | exact rfl); clear hr0) | (with_reducible refine at_list ?_; refine wpList_fop_g rfl rfl rfl rfl rfl ?_; intro r n hr0; have hr := hr0 _ _ (by first | with_reducible assumption | exact rfl) (by first | with_reducible assumption | exact rfl); clear hr0) | (with_reducible refine at_list ?_; refine wpList_wide_g rfl rfl Try.underlying22 Try.underlying40 rfl ?_; intro r n hr0; have hr := hr0 _ (by first | with_reducible assumption | exact rfl); clear hr0) | (with_reducible refine at_list ?_; refine wpList_wide rfl rfl rfl Try.underlying22 Try.underlying40 ?_; intro r n hr0; have hr := hr0 _ (by first | with_reducible assumption | exact rfl); clear hr0) | (go_at_call 21; refine (implValidBar_any _ _ _ _ _ (by assumption)).mono ?_; rintro e w' ⟨rfl, hb⟩; obtain ⟨hT, hk⟩ := bv_next hb (by (repeat (with_reducible first | assumption | apply Trk.alloc | apply Trk.setCell | apply Trk.drewN | apply Trk.drew | exact Trk.nil _))); simp only [SameOn, World.size_alloc, World.size_setCell, World.size_drew, size_drewN', and_true] at hk; have hsz := Below.size hb; (try simp only [World.size_alloc, World.size_setCell, World.size_drew, size_drewN'] at hsz)) | (go_at_call 91; refine (mayStep_any _ _ _ _ _ _ _ _ (by assumption)).mono ?_; rintro e w' ⟨rfl, hb⟩; obtain ⟨hT, hk⟩ := bv_next hb (by (repeat (with_reducible first | assumption | apply Trk.alloc | apply Trk.setCell | apply Trk.drewN | apply Trk.drew | exact Trk.nil _))); simp only [SameOn, World.size_alloc, World.size_setCell, World.size_drew, size_drewN', and_true] at hk; have hsz := Below.size hb; (try simp only [World.size_alloc, World.size_setCell, World.size_drew, size_drewN'] at hsz)) | (go_at_call 86; refine (within_any _ _ _ _).mono ?_; rintro e w' ⟨rfl, n, rfl⟩) | (go_at_call 93; refine (cloneF_any _ _ _ (by assumption) (by omega)).mono ?_; rintro e w' ⟨u, rfl, hb, hO⟩; obtain ⟨pu, cu, rfl⟩ := OF.shape hO; (try simp only [World.size_alloc, World.size_setCell, World.size_drew, World.drewN] at hO); obtain ⟨hT, hk⟩ := bv_next hb (by (repeat (with_reducible first | assumption | apply Trk.alloc | apply Trk.setCell | apply Trk.drewN | apply Trk.drew | exact Trk.nil _))); simp only [SameOn, World.size_alloc, World.size_setCell, World.size_drew, size_drewN', and_true] at hk; have hsz := Below.size hb; (try simp only [World.size_alloc, World.size_setCell, World.size_drew, size_drewN'] at hsz)) | (go_at_call 28; refine (implMelted_any _ _ _ _ _ (by assumption)).mono ?_; rintro e w' ⟨r, rfl, hr, hb⟩; obtain ⟨hT, hk⟩ := bv_next hb (by (repeat (with_reducible first | assumption | apply Trk.alloc | apply Trk.setCell | apply Trk.drewN | apply Trk.drew | exact Trk.nil _))); simp only [SameOn, World.size_alloc, World.size_setCell, World.size_drew, size_drewN', and_true] at hk; have hsz := Below.size hb; (try simp only [World.size_alloc, World.size_setCell, World.size_drew, size_drewN'] at hsz)))
          go_roundw
          case rel => exact ⟨k + 1, c2, q2, ys ++ [h3'], q1, c1, by omega, by go_num, by simp, by simp [HYL.out], HQ.out, HMAP.out, HU1.out, HBL.out⟩
          case measure => simp [intOf]; omega
          all_goals first | kernel_rfl | rfl
    · have hlti : ¬ (k : Int) < z := by have := HMX.out; have := HNN.out; omega
      have hke : k = N := by omega
      have hb0 : B0 = true := by rw [HU.out, ← hke]; exact HUK.out
      subst hke
      subst hb0
      have HO8 : Hid (OF B (wr.setCells (w.heap.size + 1) 0 [.float .f32 s.a, .float .f32 s.b, .float .f32 s.c, .float .f32 s.d, .float .f32 s.p, .float .f32 s.l, .float .f32 p, .slice q0 (RK k).length c0]) (.slice q0 (RK k).length c0) (RK k)) := by
        refine HAT.out.2.1.kept (grown_setCells _ _ _ _) ?_
        cases hu : (Value.slice q0 (RK k).length c0).ownBlock with
        | none => exact .inl rfl
        | some kk =>
          refine .inr fun e => ?_
          have h9 := (HAT.out.2.1.block kk hu).1
          cases e
          omega
      have HO9 : Hid ((OF B (wr.setCells (w.heap.size + 1) 0 [.float .f32 s.a, .float .f32 s.b, .float .f32 s.c, .float .f32 s.d, .float .f32 s.p, .float .f32 s.l, .float .f32 p, .slice q0 (RK k).length c0]) (.slice q ys.length c) ys ∧ ApV (.slice q ys.length c) (.slice q0 (RK k).length c0)) ∨ (ys = [] ∧ c = 0)) := by
        rcases HAT.out.2.2 with h | h
        · refine .inl ⟨h.1.kept (grown_setCells _ _ _ _) ?_, h.2.2⟩
          cases hu : (Value.slice q ys.length c).ownBlock with
          | none => exact .inl rfl
          | some kk =>
            refine .inr fun e => ?_
            have h9 := (h.1.block kk hu).1
            cases e
            omega
        · exact .inr h
      clear hB hyl hzr hb17
      go_wp2_with (first | (with_reducible refine at_list ?_; refine wpList_fop rfl rfl rfl rfl rfl ?_; intro r n hr0; have hr := hr0 _ _ (by first | with_reducible assumption | exact rfl) (by first | with_reducible assumption | exact rfl); clear hr0) | (with_reducible refine at_list ?_; refine wpList_neg rfl rfl rfl ?_; intro r hr0; have hr := hr0 _ (by first | with_reducible assumption | exact rfl); clear hr0) | (with_reducible refine at_list ?_; refine wpList_fop_g rfl rfl rfl rfl rfl ?_; intro r n hr0; have hr := hr0 _ _ (by first | with_reducible assumption | exact rfl) (by first | with_reducible assumption | exact rfl); clear hr0) | (with_reducible refine at_list ?_; refine wpList_wide_g rfl rfl Try.underlying22 Try.underlying40 rfl ?_; intro r n hr0; have hr := hr0 _ (by first | with_reducible assumption | exact rfl); clear hr0) | (with_reducible refine at_list ?_; refine wpList_wide rfl rfl rfl Try.underlying22 Try.underlying40 ?_; intro r n hr0; have hr := hr0 _ (by first | with_reducible assumption | exact rfl); clear hr0) | (go_at_call 21; refine (implValidBar_any _ _ _ _ _ (by assumption)).mono ?_; rintro e w' ⟨rfl, hb⟩; obtain ⟨hT, hk⟩ := bv_next hb (by (repeat (with_reducible first | assumption | apply Trk.alloc | apply Trk.setCell | apply Trk.drewN | apply Trk.drew | exact Trk.nil _))); simp only [SameOn, World.size_alloc, World.size_setCell, World.size_drew, size_drewN', and_true] at hk; have hsz := Below.size hb; (try simp only [World.size_alloc, World.size_setCell, World.size_drew, size_drewN'] at hsz)) | (go_at_call 91; refine (mayStep_any _ _ _ _ _ _ _ _ (by assumption)).mono ?_; rintro e w' ⟨rfl, hb⟩; obtain ⟨hT, hk⟩ := bv_next hb (by (repeat (with_reducible first | assumption | apply Trk.alloc | apply Trk.setCell | apply Trk.drewN | apply Trk.drew | exact Trk.nil _))); simp only [SameOn, World.size_alloc, World.size_setCell, World.size_drew, size_drewN', and_true] at hk; have hsz := Below.size hb; (try simp only [World.size_alloc, World.size_setCell, World.size_drew, size_drewN'] at hsz)) | (go_at_call 86; refine (within_any _ _ _ _).mono ?_; rintro e w' ⟨rfl, n, rfl⟩) | (go_at_call 93; refine (cloneF_any _ _ _ (by assumption) (by omega)).mono ?_; rintro e w' ⟨u, rfl, hb, hO⟩; obtain ⟨pu, cu, rfl⟩ := OF.shape hO; (try simp only [World.size_alloc, World.size_setCell, World.size_drew, World.drewN] at hO); obtain ⟨hT, hk⟩ := bv_next hb (by (repeat (with_reducible first | assumption | apply Trk.alloc | apply Trk.setCell | apply Trk.drewN | apply Trk.drew | exact Trk.nil _))); simp only [SameOn, World.size_alloc, World.size_setCell, World.size_drew, size_drewN', and_true] at hk; have hsz := Below.size hb; (try simp only [World.size_alloc, World.size_setCell, World.size_drew, size_drewN'] at hsz)) | (go_at_call 28; refine (implMelted_any _ _ _ _ _ (by assumption)).mono ?_; rintro e w' ⟨r, rfl, hr, hb⟩; obtain ⟨hT, hk⟩ := bv_next hb (by (repeat (with_reducible first | assumption | apply Trk.alloc | apply Trk.setCell | apply Trk.drewN | apply Trk.drew | exact Trk.nil _))); simp only [SameOn, World.size_alloc, World.size_setCell, World.size_drew, size_drewN', and_true] at hk; have hsz := Below.size hb; (try simp only [World.size_alloc, World.size_setCell, World.size_drew, size_drewN'] at hsz)))
      refine bodyPost_ret (v := .tuple #[.agg #[.float .f32 s.a, .float .f32 s.b, .float .f32 s.c, .float .f32 s.d, .float .f32 s.p, .float .f32 s.l, .float .f32 p, .slice q0 (RK k).length c0], .slice q ys.length c, .bool true]) (by simp [results, Try.results44, go_sem, *]) rfl ?_
      exact ⟨q0, c0, q, c, ys, rfl, by (repeat (first | (with_reducible exact Below.refl _ _) | (with_reducible assumption) | (with_reducible refine below_then ?_ (by assumption)) | (with_reducible refine Below.trans ?_ (by assumption)) | (with_reducible refine below_drewN ?_ _) | (with_reducible apply Below.drew) | (with_reducible refine below_alloc ?_ _) | refine Below.setCell ?_ (by first | (simp; done) | (simp; omega)) _)), HO8.out.base (by omega), HO9.out.imp (fun h => ⟨h.1.base (by omega), h.2⟩) id, HL.out⟩
end Go.Proofs.Ytjeeflldbhajiaa
set_option linter.unusedSimpArgs false
set_option linter.unusedVariables false
set_option linter.unusedSectionVars false
namespace Go.Proofs.Ytjeeflldbhajiaa
open Go Go.RowKit
section
variable {P : Program} {ops : Array Oper} {Q : Exit → Act → World → Prop} {F : World → Prop} {T : World → World → Prop}
variable {cs : List GC} {a0 : Act}
end
end Go.Proofs.Ytjeeflldbhajiaa
set_option linter.unusedSimpArgs false
set_option linter.unusedVariables false
set_option linter.unusedSectionVars false
namespace Go.Proofs.Ytjeeflldbhajiaa
open Go Go.RowKit
section
variable {P : Program} {ops : Array Oper} {Q : Exit → Act → World → Prop} {F : World → Prop}
end
end Go.Proofs.Ytjeeflldbhajiaa
set_option linter.unusedSimpArgs false
set_option linter.unusedVariables false
set_option linter.unusedSectionVars false
namespace Go.Proofs.Ytjeeflldbhajiaa
open Go Go.RowKit
open Go.ChangeShapes Go.WideShapes Go.ChangeAt Go.RowKit Go.Joins
/-- A drawn bar: step, heats. -/
structure DB (q : Nat) (xs : List Nat) : Prop where
  st : ∃ e : Int, (1 ≤ e ∧ e ≤ 8) ∧ V .f32 (cn .f32 q) ((e : Rat) / 4)
  lt : q < 4294967296 ∧ ∀ j, xs.getD j 0 < 4294967296
  len : 1 ≤ xs.length ∧ xs.length ≤ 7
  xs : ∀ j, j < xs.length → ∃ h : Int, (-32 ≤ h ∧ h ≤ 32) ∧ V .f32 (cn .f32 (xs.getD j 0)) ((h : Rat) / 4)
theorem DB.hb {q : Nat} {xs : List Nat} (h : DB q xs) : HB xs 8 := fun j hj => by
  obtain ⟨m, hm, e⟩ := h.xs j hj
  have b1 : (m : Rat) ≤ ((32 : Int) : Rat) := icast_le hm.2
  have b2 : ((-32 : Int) : Rat) ≤ (m : Rat) := icast_le hm.1
  have e32 : ((32 : Int) : Rat) = 32 := rfl
  have e32' : ((-32 : Int) : Rat) = -32 := rfl
  have e' : V .f32 (hX xs j) ((m : Rat) / 4) := e
  exact ⟨e'.1, by rw [e'.2]; grind, by rw [e'.2]; grind⟩
/-- .. of which the first heats are drawn. -/
def DH (xs : List Nat) : Prop := ∀ j, j < xs.length → (xs.getD j 0 < 4294967296) ∧ ∃ h : Int, (-32 ≤ h ∧ h ≤ 32) ∧ V .f32 (cn .f32 (xs.getD j 0)) ((h : Rat) / 4)
theorem DH.add {xs : List Nat} (h : DH xs) {r : Nat} {m : Int} (hm : -32 ≤ m ∧ m ≤ 32) (hr : cn .f32 r = fop .quo .f32 (cn .f32 (floatOfInt .f32 m)) (cn .f32 1082130432)) : DH (xs ++ [r]) := by
  intro j hj
  rw [List.getD_eq_getElem?_getD]
  by_cases e : j < xs.length
  · rw [List.getElem?_append_left e, ← List.getD_eq_getElem?_getD]; exact h j e
  · have ej : j = xs.length := by simp at hj; omega
    subst ej
    rw [List.getElem?_append_right (Nat.le_refl _), Nat.sub_self]
    have v := quarter_val (n := m) (by omega)
    exact ⟨raw_lt hr v.1 (fop_lt _ _ _), m, hm, by show V _ (cn .f32 r) _; rw [hr]; exact v⟩
theorem DH.wf {xs : List Nat} (h : DH xs) : ∀ j, xs.getD j 0 < 4294967296 := fun j => by
  by_cases e : j < xs.length
  · exact (h j e).1
  · rw [List.getD_eq_getElem?_getD, List.getElem?_eq_none (by omega)]; decide
theorem turn_grown {s : Nat} {a c : World} (h : Turn s (s + 1) a c) : a.grownBy c (some s) := ⟨h.os, h.tape, h.output, h.size, fun k hk hne => h.block k hk (by
  rcases Nat.lt_trichotomy k s with h1 | h1 | h1
  · exact .inl h1
  · exact absurd (by rw [h1]) hne
  · exact .inr h1)⟩
/-- What a draw of a bar has turned: the source; the bar stands in its variable. -/
def DBI (B sb K : Nat) (W : World) (b : Nat) (cs : List Value) (u : World) : Prop := SrcAt u sb K ∧ Turn sb (sb + 1) W u ∧ owned u b cs ∧ (B ≤ b ∧ b < u.heap.size)
theorem DBI.later {B sb K : Nat} {W : World} {b : Nat} {cs : List Value} {u u' : World} (h : DBI B sb K W b cs u) (hb : Below u.heap.size u u') : DBI B sb K W b cs u' :=
  ⟨h.1.later hb h.1.lt, h.2.1.trans (Turn.below hb), h.2.2.1.later hb, h.2.2.2.1, Nat.lt_of_lt_of_le h.2.2.2.2 hb.size⟩
theorem DBI.drawn {B sb K L : Nat} {W : World} {b : Nat} {cs : List Value} {u u' : World} (h : DBI B sb K W b cs u) (hs : sb < B) (hg : Turn sb (sb + 1) u u') (hk : SrcAt u' sb L) : DBI B sb L W b cs u' :=
  ⟨hk, h.2.1.trans hg, owned_kept h.2.2.1 (turn_grown hg) h.2.2.2.2 (fun k hk => by cases hk; have := h.2.2.2.1; omega), h.2.2.2.1, Nat.lt_of_lt_of_le h.2.2.2.2 hg.size⟩
theorem SrcAt.grown {u u' : World} {sb K : Nat} {g : Option Nat} (h : SrcAt u sb K) (hg : u.grownBy u' g) (hne : ∀ k, g = some k → sb < k) : SrcAt u' sb K := by
  have hlt := h.lt
  obtain ⟨p, n, c, kk, s, ⟨a0, a1, a2⟩, ⟨f1, f2⟩, hby, hr⟩ := h
  have bl : ∀ k, k ≤ sb → u'.heap[k]? = u.heap[k]? := fun k hk => hg.block k (by omega) (fun e => by have := hne k e.symm; omega)
  refine ⟨p, n, c, kk, s, ⟨(World.cell?_of_block (bl sb (Nat.le_refl _))).trans a0, (World.cell?_of_block (bl sb (Nat.le_refl _))).trans a1, (World.cell?_of_block (bl sb (Nat.le_refl _))).trans a2⟩, ⟨(World.frozen?_of_block (bl sb (Nat.le_refl _))).trans f1, (World.frozen?_of_block (bl sb (Nat.le_refl _))).trans f2⟩, ⟨hby.1, fun i hi => ?_⟩, hr⟩
  obtain ⟨b', o', x, e1, e2, e3, e4⟩ := hby.2 i hi
  exact ⟨b', o', x, e1, e2, (World.cell?_of_block (bl b' (by omega))).trans e3, e4⟩
theorem DBI.grown {B sb K : Nat} {W : World} {b : Nat} {cs : List Value} {u u' : World} {g : Option Nat} (h : DBI B sb K W b cs u) (hs : sb < B) (hW : W.heap.size ≤ B) (hg : u.grownBy u' g) (hne : ∀ k, g = some k → k ≠ b ∧ B ≤ k) : DBI B sb K W b cs u' :=
  ⟨h.1.grown hg (fun k hk => by have := (hne k hk).2; omega), ⟨hg.os.trans h.2.1.os, hg.tape.trans h.2.1.tape, hg.output.trans h.2.1.output, Nat.le_trans h.2.1.size hg.size, fun k hk hr => (hg.block k (Nat.lt_of_lt_of_le hk h.2.1.size) (fun e => by have := (hne k e.symm).2; omega)).trans (h.2.1.block k hk hr)⟩,
    owned_kept h.2.2.1 hg h.2.2.2.2 (fun k hk => (hne k hk).1), h.2.2.2.1, Nat.lt_of_lt_of_le h.2.2.2.2 hg.size⟩
/-- The bar's heats are stored. -/
theorem DBI.put {B sb K : Nat} {W : World} {b : Nat} {s : St} {q : Nat} {v v2 : Value} {u : World} (h : DBI B sb K W b (barC s q v) u) (hs : sb < B) (hW : W.heap.size ≤ B) : DBI B sb K W b (barC s q v2) (u.setCell ⟨b, 7, none⟩ v2) := by
  have hg : u.grownBy (u.setCell ⟨b, 7, none⟩ v2) (some b) := ⟨rfl, rfl, rfl, by simp, fun k _ hk => Below.heap_setCell _ _ _ _ (fun e => hk (by rw [e]))⟩
  have hB := h.2.2.2.1
  refine ⟨h.1.grown hg (fun k hk => by cases hk; omega), ⟨hg.os.trans h.2.1.os, hg.tape.trans h.2.1.tape, hg.output.trans h.2.1.output, Nat.le_trans h.2.1.size hg.size, fun k hk hr => (hg.block k (Nat.lt_of_lt_of_le hk h.2.1.size) (fun e => by cases e; omega)).trans (h.2.1.block k hk hr)⟩, ?_, hB, Nat.lt_of_lt_of_le h.2.2.2.2 hg.size⟩
  have o := h.2.2.1
  obtain ⟨a0, z0⟩ := o 0 _ rfl
  obtain ⟨a1, z1⟩ := o 1 _ rfl
  obtain ⟨a2, z2⟩ := o 2 _ rfl
  obtain ⟨a3, z3⟩ := o 3 _ rfl
  obtain ⟨a4, z4⟩ := o 4 _ rfl
  obtain ⟨a5, z5⟩ := o 5 _ rfl
  obtain ⟨a6, z6⟩ := o 6 _ rfl
  obtain ⟨a7, z7⟩ := o 7 _ rfl
  intro k x hx
  match k, hx with
  | 0, hx => obtain rfl : _ = x := by simpa [barC] using hx
             exact ⟨by go_simp, by go_simp⟩
  | 1, hx => obtain rfl : _ = x := by simpa [barC] using hx
             exact ⟨by go_simp, by go_simp⟩
  | 2, hx => obtain rfl : _ = x := by simpa [barC] using hx
             exact ⟨by go_simp, by go_simp⟩
  | 3, hx => obtain rfl : _ = x := by simpa [barC] using hx
             exact ⟨by go_simp, by go_simp⟩
  | 4, hx => obtain rfl : _ = x := by simpa [barC] using hx
             exact ⟨by go_simp, by go_simp⟩
  | 5, hx => obtain rfl : _ = x := by simpa [barC] using hx
             exact ⟨by go_simp, by go_simp⟩
  | 6, hx => obtain rfl : _ = x := by simpa [barC] using hx
             exact ⟨by go_simp, by go_simp⟩
  | 7, hx => obtain rfl : _ = x := by simpa [barC] using hx
             exact ⟨by go_simp, by go_simp⟩
  | k + 8, hx => simp [barC] at hx
section
variable {ops : Array Oper} {Q : Exit → Act → World → Prop} {F : World → Prop}
variable {l : List Oper} {cs : List GC} {i : Nat} {ks : List (Nat × (World → Prop))} {a : Act} {o : Oper}
end
/-- An own slice with a number more of a class; where it lies. -/
def appD (B S : Nat) (g0 : Option Nat) (xs : List Nat) (R : Nat → Prop) (v : Value) (w : World) : Prop := ∃ r, R r ∧ appP B S g0 (xs ++ [r]) v w
def Clm.appD (B S : Nat) (g0 : Option Nat) (xs : List Nat) (R : Nat → Prop) : Clm := ⟨3, fun _ u => ∃ q c, u = .slice q (xs.length + 1) c, fun _ u w => Go.Proofs.Ytjeeflldbhajiaa.appD B S g0 xs R u w, fun _ => ⟨_, none, 0, rfl⟩, fun _ _ _ _ h hb => (by obtain ⟨r, h1, h2⟩ := h; exact ⟨r, h1, h2.later hb⟩), fun h => nomatch h⟩
/-- A number more, stored. -/
def DPT (B sb K : Nat) (W : World) (b : Nat) (s : St) (q S : Nat) (g : Option Nat) (xs : List Nat) (R : Nat → Prop) (u : World) : Prop := ∃ q2 c2, DBI B sb K W b (barC s q (.slice q2 (xs.length + 1) c2)) u ∧ appD B S g xs R (.slice q2 (xs.length + 1) c2) u
theorem DPT.later {B sb K : Nat} {W : World} {b : Nat} {s : St} {q S : Nat} {g : Option Nat} {xs : List Nat} {R : Nat → Prop} {u u' : World} (h : DPT B sb K W b s q S g xs R u) (hb : Below u.heap.size u u') : DPT B sb K W b s q S g xs R u' := by
  obtain ⟨q9, c9, h1, r9, h2, h3⟩ := h
  exact ⟨q9, c9, h1.later hb, r9, h2, h3.later hb⟩
/-- The bar with its own heats. -/
def DBX (B sb K : Nat) (W : World) (b : Nat) (s : St) (q : Nat) (v : Value) (xs : List Nat) (u : World) : Prop := DBI B sb K W b (barC s q v) u ∧ OF B u v xs ∧ ∀ k, v.ownBlock = some k → k ≠ b
theorem DBX.later {B sb K : Nat} {W : World} {b : Nat} {s : St} {q : Nat} {v : Value} {xs : List Nat} {u u' : World} (h : DBX B sb K W b s q v xs u) (hb : Below u.heap.size u u') : DBX B sb K W b s q v xs u' := ⟨h.1.later hb, h.2.1.later hb, h.2.2⟩
theorem DBX.drawn {B sb K L : Nat} {W : World} {b : Nat} {s : St} {q : Nat} {v : Value} {xs : List Nat} {u u' : World} (h : DBX B sb K W b s q v xs u) (hs : sb < B) (hg : Turn sb (sb + 1) u u') (hk : SrcAt u' sb L) : DBX B sb L W b s q v xs u' :=
  ⟨h.1.drawn hs hg hk, h.2.1.kept (turn_grown hg) (by
    cases hu : v.ownBlock with
    | none => exact .inl rfl
    | some k => refine .inr fun e => ?_; have := (h.2.1.block k hu).1; cases e; omega), h.2.2⟩
end Go.Proofs.Ytjeeflldbhajiaa
set_option linter.unusedSimpArgs false
set_option linter.unusedVariables false
set_option linter.unusedSectionVars false
namespace Go.Proofs.Ytjeeflldbhajiaa
open Go Go.RowKit
def same (a b : Nat) : Bool := cn .f32 a == cn .f32 b
end Go.Proofs.Ytjeeflldbhajiaa
set_option linter.unusedSimpArgs false
set_option linter.unusedVariables false
set_option linter.unusedSectionVars false
namespace Go.Proofs.Ytjeeflldbhajiaa
open Go Go.RowKit
open Go.ChangeShapes Go.WideShapes Go.ChangeAt Go.RowKit Go.Joins
def St.nums (s : St) : List Nat := [s.a, s.b, s.c, s.d, s.p, s.l]
def St.sm (s t : St) : Bool := same s.a t.a && (same s.b t.b && (same s.c t.c && (same s.d t.d && (same s.p t.p && same s.l t.l))))
def St.lt (s : St) : Prop := s.a < 4294967296 ∧ s.b < 4294967296 ∧ s.c < 4294967296 ∧ s.d < 4294967296 ∧ s.p < 4294967296 ∧ s.l < 4294967296
/-- A slice of these words. -/
def Clm.fs (xs : List Nat) : Clm := ⟨1, fun _ _ => True, fun _ v w => FS w v xs, fun _ => ⟨undef, trivial⟩, fun _ _ _ _ h hb => h.later hb, fun h => nomatch h⟩
end Go.Proofs.Ytjeeflldbhajiaa
set_option linter.unusedSimpArgs false
set_option linter.unusedVariables false
set_option linter.unusedSectionVars false
namespace Go.Proofs.Ytjeeflldbhajiaa
open Go Go.RowKit
end Go.Proofs.Ytjeeflldbhajiaa
set_option linter.unusedSimpArgs false
set_option linter.unusedVariables false
set_option linter.unusedSectionVars false
namespace Go.Proofs.Ytjeeflldbhajiaa
open Go Go.RowKit
open Go.ChangeShapes Go.WideShapes Go.ChangeAt Go.RowKit Go.Joins
end Go.Proofs.Ytjeeflldbhajiaa
set_option linter.unusedSimpArgs false
set_option linter.unusedVariables false
set_option linter.unusedSectionVars false
namespace Go.Proofs.Ytjeeflldbhajiaa
open Go Go.RowKit
end Go.Proofs.Ytjeeflldbhajiaa
set_option linter.unusedSimpArgs false
set_option linter.unusedVariables false
set_option linter.unusedSectionVars false
namespace Go.Proofs.Ytjeeflldbhajiaa
open Go Go.RowKit
open Go.ChangeShapes Go.WideShapes Go.ChangeAt Go.RowKit Go.Joins
theorem b10GapC_any (x y : Nat) (w : World) : Calls Try.prog 48 #[.float .f64 x, .float .f64 y] w (RF w .f64 (gapC (cn .f64 x) (cn .f64 y))) := by
  rcases h : flt .f64 (cn .f64 x) (cn .f64 y)
  · have Hv : Hid (gapC (cn .f64 x) (cn .f64 y) = fop .sub .f64 (cn .f64 x) (cn .f64 y)) := by show _ = _; unfold gapC; rw [if_neg (by rw [h]; simp)]
    go_enter Try.func48, Try.ntmps48
    go_wp2_with (first | (with_reducible refine at_list ?_; refine wpList_fop rfl rfl rfl rfl rfl ?_; intro r n hr0; have hr := hr0 _ _ (by first | with_reducible assumption | exact rfl) (by first | with_reducible assumption | exact rfl); clear hr0) | (with_reducible refine at_list ?_; refine wpList_neg rfl rfl rfl ?_; intro r hr0; have hr := hr0 _ (by first | with_reducible assumption | exact rfl); clear hr0) | (with_reducible refine at_list ?_; refine wpList_fop_g rfl rfl rfl rfl rfl ?_; intro r n hr0; have hr := hr0 _ _ (by first | with_reducible assumption | exact rfl) (by first | with_reducible assumption | exact rfl); clear hr0) | (with_reducible refine at_list ?_; refine wpList_wide_g rfl rfl Try.underlying22 Try.underlying40 rfl ?_; intro r n hr0; have hr := hr0 _ (by first | with_reducible assumption | exact rfl); clear hr0) | (with_reducible refine at_list ?_; refine wpList_wide rfl rfl rfl Try.underlying22 Try.underlying40 ?_; intro r n hr0; have hr := hr0 _ (by first | with_reducible assumption | exact rfl); clear hr0))
    all_goals
      go_ret
      exact ⟨_, rfl, by first | (rw [Hv.out]; done) | (rw [Hv.out]; simp only [*]), by first | exact ⟨_, rfl⟩ | exact ⟨0, rfl⟩⟩
  · have Hv : Hid (gapC (cn .f64 x) (cn .f64 y) = fop .sub .f64 (cn .f64 y) (cn .f64 x)) := by show _ = _; unfold gapC; rw [if_pos h]
    go_enter Try.func48, Try.ntmps48
    go_wp2_with (first | (with_reducible refine at_list ?_; refine wpList_fop rfl rfl rfl rfl rfl ?_; intro r n hr0; have hr := hr0 _ _ (by first | with_reducible assumption | exact rfl) (by first | with_reducible assumption | exact rfl); clear hr0) | (with_reducible refine at_list ?_; refine wpList_neg rfl rfl rfl ?_; intro r hr0; have hr := hr0 _ (by first | with_reducible assumption | exact rfl); clear hr0) | (with_reducible refine at_list ?_; refine wpList_fop_g rfl rfl rfl rfl rfl ?_; intro r n hr0; have hr := hr0 _ _ (by first | with_reducible assumption | exact rfl) (by first | with_reducible assumption | exact rfl); clear hr0) | (with_reducible refine at_list ?_; refine wpList_wide_g rfl rfl Try.underlying22 Try.underlying40 rfl ?_; intro r n hr0; have hr := hr0 _ (by first | with_reducible assumption | exact rfl); clear hr0) | (with_reducible refine at_list ?_; refine wpList_wide rfl rfl rfl Try.underlying22 Try.underlying40 ?_; intro r n hr0; have hr := hr0 _ (by first | with_reducible assumption | exact rfl); clear hr0))
    all_goals
      go_ret
      exact ⟨_, rfl, by first | (rw [Hv.out]; done) | (rw [Hv.out]; simp only [*]), by first | exact ⟨_, rfl⟩ | exact ⟨0, rfl⟩⟩
end Go.Proofs.Ytjeeflldbhajiaa
set_option linter.unusedSimpArgs false
set_option linter.unusedVariables false
set_option linter.unusedSectionVars false
namespace Go.Proofs.Ytjeeflldbhajiaa
open Go Go.RowKit
open Go.ChangeShapes Go.WideShapes Go.ChangeAt Go.RowKit Go.Joins
section
variable {H : Type} {enc : TypeId × Value → H} {P : Program} {w : World} {base : Nat} {spare : Nat → Bool} {held : Bool}
theorem open_u8s {t e : TypeId} {fuel : Nat} {cs : List Value} {x : DataW H × List MemPlace} (ht : P.underlying t = some (.slice e)) (he : P.underlying e = some (.int .u8)) (hc : P.cellsOf e = 1)
    (h : DataW.trod enc P w base spare held fuel t cs = some x) : ∃ p n c, cs = [.slice p n c] ∧ BY w.heap.size w p n c := by
  rcases Deep.open_slice1 ht hc h with ⟨rfl, _⟩ | ⟨a, len, cap, m, n, V, D, Pl, rfl, _, hl, hm, hmm, _, hx⟩
  · exact ⟨none, 0, 0, rfl, ⟨by omega, by omega⟩, fun i hi => absurd hi (by omega)⟩
  · have hlm : len ≤ m := by rw [hmm]; split <;> omega
    refine ⟨some a, len, cap, rfl, ⟨hl, by simpa [maxLen] using hm⟩, fun i hi => ?_⟩
    have h0 : a.spot = none := by
      have := spot_none (hx 0 (by omega)).1
      simpa [Addr.add] using this
    obtain ⟨b, o, sp⟩ := a
    have h0 : sp = none := h0
    subst h0
    obtain ⟨y, e1, _, e2⟩ := DataW.trod_int he (hx i (by omega)).2
    simp only [List.cons.injEq, and_true] at e1
    have h1 := (hx i (by omega)).1
    have e3 : (⟨b, o, none⟩ : Addr).add i = ⟨b, o + i, none⟩ := by
      unfold Addr.add
      split
      · rename_i h; subst h; rfl
      · rfl
    rw [e3, e1] at h1
    have hb := World.block_lt_of_cell? _ _ h1
    have hw : 0 ≤ y ∧ y ≤ 255 := by simpa [Lit.wf, IntKind.min, IntKind.max, IntKind.signed, IntKind.bits] using e2
    exact ⟨b, o, y, rfl, hb, h1, hw⟩
end
set_option maxRecDepth 100000 in
theorem Try.cellsU8 : Try.prog.cellsOf 5 = 1 := by kernel_rfl
set_option maxRecDepth 100000 in
theorem open_By {H : Type} {enc : TypeId × Value → H} {w : World} {base : Nat} {spare : Nat → Bool} {held : Bool} {r : Reach} {b0 : Nat} {v : Value} {d : DataW H} {p : List MemPlace} (hv : Value.okWide Try.prog w r b0 55 v) (h : DataW.Trod enc Try.prog w base spare held 55 v d p) :
    ∃ p n c, v = .slice p n c ∧ BY w.heap.size w p n c := by
  obtain ⟨fuel, hf⟩ := h
  obtain ⟨q, n, c, e, h1⟩ := open_u8s Try.underlying55 Try.underlying5 Try.cellsU8 hf
  obtain ⟨a, l, cc, rfl⟩ := okWide_slice Try.underlying55 hv
  simp [Value.cells] at e
  obtain ⟨rfl, rfl, rfl⟩ := e
  exact ⟨_, _, _, rfl, h1⟩
theorem b10Long_any (p q : Option Addr) (n c m d : Nat) (w : World) : Calls Try.prog 45 #[.slice p n c, .slice q m d] w (RB w (decide (1048576 < n) || decide (1048576 < m))) := by
  by_cases h1 : 1048576 < n <;> by_cases h2 : 1048576 < m
  all_goals
    go_enter Try.func45, Try.ntmps45
    go_wp2_with (first | (with_reducible refine at_list ?_; refine wpList_fop rfl rfl rfl rfl rfl ?_; intro r n hr0; have hr := hr0 _ _ (by first | with_reducible assumption | exact rfl) (by first | with_reducible assumption | exact rfl); clear hr0) | (with_reducible refine at_list ?_; refine wpList_neg rfl rfl rfl ?_; intro r hr0; have hr := hr0 _ (by first | with_reducible assumption | exact rfl); clear hr0) | (with_reducible refine at_list ?_; refine wpList_fop_g rfl rfl rfl rfl rfl ?_; intro r n hr0; have hr := hr0 _ _ (by first | with_reducible assumption | exact rfl) (by first | with_reducible assumption | exact rfl); clear hr0) | (with_reducible refine at_list ?_; refine wpList_wide_g rfl rfl Try.underlying22 Try.underlying40 rfl ?_; intro r n hr0; have hr := hr0 _ (by first | with_reducible assumption | exact rfl); clear hr0) | (with_reducible refine at_list ?_; refine wpList_wide rfl rfl rfl Try.underlying22 Try.underlying40 ?_; intro r n hr0; have hr := hr0 _ (by first | with_reducible assumption | exact rfl); clear hr0))
    all_goals
      go_ret
      exact ⟨by first | (simp [h1, h2]; done) | (simp [h1, h2]; omega), by first | exact ⟨_, rfl⟩ | exact ⟨0, rfl⟩⟩
/-- A number below a bound. -/
def RN (w : World) (lo hi : Int) (e : Ending) (w' : World) : Prop := ∃ r, e = .returned (.int .i64 r) ∧ (lo ≤ r ∧ r ≤ hi) ∧ ∃ m, w' = w.drewN m
set_option maxHeartbeats 2000000 in
theorem b10At_any (p : Option Addr) (n c i : Nat) (k : Int) (w : World) (h : BY w.heap.size w p n c) (hi : i ≤ 1000) (hk : 1 ≤ k ∧ k ≤ 1000000) : Calls Try.prog 47 #[.slice p n c, .int .i64 i, .int .i64 k] w (RN w 0 (k - 1)) := by
  obtain ⟨⟨hc1, hc2⟩, hv⟩ := h
  have HV := Lib.hid hv
  clear hv
  obtain ⟨hk1, hk2⟩ := hk
  by_cases h1 : k ≤ 1
  · go_enter Try.func47, Try.ntmps47
    go_wp2_with (first | (with_reducible refine at_list ?_; refine wpList_fop rfl rfl rfl rfl rfl ?_; intro r n hr0; have hr := hr0 _ _ (by first | with_reducible assumption | exact rfl) (by first | with_reducible assumption | exact rfl); clear hr0) | (with_reducible refine at_list ?_; refine wpList_neg rfl rfl rfl ?_; intro r hr0; have hr := hr0 _ (by first | with_reducible assumption | exact rfl); clear hr0) | (with_reducible refine at_list ?_; refine wpList_fop_g rfl rfl rfl rfl rfl ?_; intro r n hr0; have hr := hr0 _ _ (by first | with_reducible assumption | exact rfl) (by first | with_reducible assumption | exact rfl); clear hr0) | (with_reducible refine at_list ?_; refine wpList_wide_g rfl rfl Try.underlying22 Try.underlying40 rfl ?_; intro r n hr0; have hr := hr0 _ (by first | with_reducible assumption | exact rfl); clear hr0) | (with_reducible refine at_list ?_; refine wpList_wide rfl rfl rfl Try.underlying22 Try.underlying40 ?_; intro r n hr0; have hr := hr0 _ (by first | with_reducible assumption | exact rfl); clear hr0))
    all_goals
      go_ret
      exact ⟨0, rfl, ⟨by omega, by omega⟩, by first | exact ⟨_, rfl⟩ | exact ⟨0, rfl⟩⟩
  by_cases hlt : i < n
  · obtain ⟨bb, o, x, rfl, hbb, hx, hx0, hx1⟩ := HV.out i hlt
    obtain ⟨g1, g2⟩ := rem_bd (x := x) (n := k) hx0 hk1
    go_enter Try.func47, Try.ntmps47
    go_wp2_with (first | (with_reducible refine at_list ?_; refine wpList_fop rfl rfl rfl rfl rfl ?_; intro r n hr0; have hr := hr0 _ _ (by first | with_reducible assumption | exact rfl) (by first | with_reducible assumption | exact rfl); clear hr0) | (with_reducible refine at_list ?_; refine wpList_neg rfl rfl rfl ?_; intro r hr0; have hr := hr0 _ (by first | with_reducible assumption | exact rfl); clear hr0) | (with_reducible refine at_list ?_; refine wpList_fop_g rfl rfl rfl rfl rfl ?_; intro r n hr0; have hr := hr0 _ _ (by first | with_reducible assumption | exact rfl) (by first | with_reducible assumption | exact rfl); clear hr0) | (with_reducible refine at_list ?_; refine wpList_wide_g rfl rfl Try.underlying22 Try.underlying40 rfl ?_; intro r n hr0; have hr := hr0 _ (by first | with_reducible assumption | exact rfl); clear hr0) | (with_reducible refine at_list ?_; refine wpList_wide rfl rfl rfl Try.underlying22 Try.underlying40 ?_; intro r n hr0; have hr := hr0 _ (by first | with_reducible assumption | exact rfl); clear hr0))
    all_goals
      go_ret
      exact ⟨_, rfl, ⟨by go_num, by go_num⟩, by first | exact ⟨_, rfl⟩ | exact ⟨0, rfl⟩⟩
  · obtain ⟨g1, g2⟩ := rem_bd (x := (i : Int) * 37 + 11) (n := k) (by omega) hk1
    go_enter Try.func47, Try.ntmps47
    go_wp2_with (first | (with_reducible refine at_list ?_; refine wpList_fop rfl rfl rfl rfl rfl ?_; intro r n hr0; have hr := hr0 _ _ (by first | with_reducible assumption | exact rfl) (by first | with_reducible assumption | exact rfl); clear hr0) | (with_reducible refine at_list ?_; refine wpList_neg rfl rfl rfl ?_; intro r hr0; have hr := hr0 _ (by first | with_reducible assumption | exact rfl); clear hr0) | (with_reducible refine at_list ?_; refine wpList_fop_g rfl rfl rfl rfl rfl ?_; intro r n hr0; have hr := hr0 _ _ (by first | with_reducible assumption | exact rfl) (by first | with_reducible assumption | exact rfl); clear hr0) | (with_reducible refine at_list ?_; refine wpList_wide_g rfl rfl Try.underlying22 Try.underlying40 rfl ?_; intro r n hr0; have hr := hr0 _ (by first | with_reducible assumption | exact rfl); clear hr0) | (with_reducible refine at_list ?_; refine wpList_wide rfl rfl rfl Try.underlying22 Try.underlying40 ?_; intro r n hr0; have hr := hr0 _ (by first | with_reducible assumption | exact rfl); clear hr0))
    all_goals
      go_ret
      exact ⟨_, rfl, ⟨by go_num, by go_num⟩, by first | exact ⟨_, rfl⟩ | exact ⟨0, rfl⟩⟩
end Go.Proofs.Ytjeeflldbhajiaa
