/-
  What the small functions over numbers return (the program's and the reference's), each proved once. No condition but what each contract says.
  What a call that only makes memory leaves of some blocks, in one word; what such calls hand back (floats up to a NaN's bits); the steps of a plan for them. No condition; nothing of the program is named here.
  Stuffs: which are valid (the program's and the reference's), each function proved once. No condition but what each contract says.
  How warm stuff with a heat is, which part of it is molten, how easily heat flows (the program's and the reference's), each function proved once. No condition but what each contract says.
  Which words are finite; shares; variadic calls with few numbers. No condition but what each law says.
  Slices that are only read: later they hold what they held. No condition.
  Slices of 32-bit numbers: what a call makes, writes and compares; the laws' own helpers (toFloat32S, eqFloat32S, markFloat32S, heldFloat32S, szFloat32S), each proved once. No condition but what each contract says.
  Slices that are appended to, one number at a time; which lists are finite (the reference's). No condition but what each law says.
  Marks: what a call leaves that writes into one own slice; slices that lie apart. No condition but what each law says.
  Rows of the call's own, with the blocks between which they lie; what a call leaves that writes into some of these blocks. No condition; nothing of the program is named here.
  How this seat's bars and slices of numbers are opened to their cells. No condition.
  Rods: how they are opened to their cells. No condition but what each contract says.
  Rods: the laws' own helpers; which rods are valid (the program's and the reference's). No condition but what each contract says.
  Which rods are valid: the program's way. No condition but what each contract says.
  Which rods are valid: the reference's way. No condition but what each contract says.
  Half of a number: by two, or a half times. No condition.
  The middles of a rod's cells (the program's and the reference's). No condition but what each contract says.
  A list of numbers appended whole to an own slice; slices.Clone, and the reference's copy. No condition but what each contract says.
  Marks in rods of the call's own. No condition but what each contract says.
  Rods of the call's own that are made in a region that draws its order: four lists, made one behind the other. No condition but what each contract says.
  Rods that are handed back, in plans. No condition but what each contract says.
-/
import Derived.Test.YtpnkapdemgieaaaRM1
import Derived.Deep.Slices
set_option linter.unusedSimpArgs false
set_option linter.unusedVariables false
set_option linter.unusedSectionVars false
namespace Go.Proofs.Ytpnkapdemgieaaa
open Go Go.RowKit
def RI (w : World) (n : Int) (e : Ending) (w' : World) : Prop := e = .returned (.int .i64 n) ∧ ∃ m, w' = w.drewN m
/-- A slice of 32-bit numbers with these words. -/
def FS (w : World) (v : Value) (xs : List Nat) : Prop :=
  ∃ p c, v = .slice p xs.length c ∧ c ≤ 9223372036854775807 ∧ xs.length ≤ c ∧ ∀ i, i < xs.length → ∃ b o, p = some ⟨b, o, none⟩ ∧ w.cell? ⟨b, o + i, none⟩ = some (.float .f32 (xs.getD i 0))
theorem FS_view {w : World} {v : Value} {xs : List Nat} (h : FS w v xs) : ∃ p c, v = .slice p xs.length c ∧ c ≤ 9223372036854775807 ∧ xs.length ≤ c ∧ ∀ i, i < xs.length → ∃ b o, p = some ⟨b, o, none⟩ ∧ w.cell? ⟨b, o + i, none⟩ = some (.float .f32 (xs.getD i 0)) := h
def findI (p : Nat → Bool) (xs : List Nat) : Int := match xs.findIdx? p with | some i => i | none => -1
theorem findI_at (p : Nat → Bool) (xs : List Nat) (k : Nat) (hk : k < xs.length) (h0 : ∀ j, j < k → p (xs.getD j 0) = false) (h1 : p (xs.getD k 0) = true) : findI p xs = k := by
  have : xs.findIdx? p = some k := by
    rw [List.findIdx?_eq_some_iff_getElem]
    refine ⟨hk, by simpa [hk] using h1, fun j hj => ?_⟩
    have := h0 j hj
    simpa [show j < xs.length by omega] using this
  simp [findI, this]
theorem findI_no (p : Nat → Bool) (xs : List Nat) (h0 : ∀ j, j < xs.length → p (xs.getD j 0) = false) : findI p xs = -1 := by
  have : xs.findIdx? p = none := by
    rw [List.findIdx?_eq_none_iff]
    intro x hx
    obtain ⟨j, hj, rfl⟩ := List.getElem_of_mem hx
    have := h0 j hj
    simpa [hj] using this
  simp [findI, this]
def inB (n lo hi : Int) : Bool := decide (lo ≤ n) && decide (n ≤ hi)
theorem inB_split (n lo hi : Int) : (lo ≤ n ∧ n ≤ hi) ∨ (lo ≤ n ∧ ¬ n ≤ hi) ∨ ¬ lo ≤ n := by omega
set_option maxHeartbeats 400000 in
theorem within_any (n lo hi : Int) (w : World) :
    Calls Try.prog 52 #[.int .i64 n, .int .i64 lo, .int .i64 hi] w (RB w (inB n lo hi)) := by
  rcases inB_split n lo hi with ⟨h1, h2⟩ | ⟨h1, h2⟩ | h1 <;>
  · go_enter Try.func52, Try.ntmps52
    go_wp2
    go_ret
    exact ⟨by simp [inB]; omega, 0, rfl⟩
/-- Is a number finite; is it finite and greater than 0; at least 0; a number, if it is finite. -/
def fin (k : FloatKind) (c : Nat) : Bool := feq k (fop .sub k c c) (cn k 0)
def abv (c : Nat) : Bool := fin .f32 c && fgt .f32 c (cn .f32 0)
def lst (c : Nat) : Bool := fin .f32 c && fge .f32 c (cn .f32 0)
def chk (c : Nat) : Nat := if fin .f32 c then c else cn .f32 0
theorem chk_yes {c : Nat} (h : fin .f32 c = true) : chk c = c := by simp [chk, h]
theorem chk_no {c : Nat} (h : fin .f32 c = false) : chk c = cn .f32 0 := by simp [chk, h]
set_option maxHeartbeats 400000 in
theorem IsFinite_any (x : Nat) (w : World) : Calls Try.prog 41 #[.float .f32 x] w (RB w (fin .f32 (cn .f32 x))) := by
  go_enter Try.func41, Try.ntmps41
  go_wp2_with (first | (with_reducible refine at_list ?_; refine wpList_fop rfl rfl rfl rfl rfl ?_; intro r n hr0; have hr := hr0 _ _ (by first | with_reducible assumption | exact rfl) (by first | with_reducible assumption | exact rfl); clear hr0) | (with_reducible refine at_list ?_; refine wpList_neg rfl rfl rfl ?_; intro r hr0; have hr := hr0 _ (by first | with_reducible assumption | exact rfl); clear hr0) | (with_reducible refine at_list ?_; refine wpList_fop_g rfl rfl rfl rfl rfl ?_; intro r n hr0; have hr := hr0 _ _ (by first | with_reducible assumption | exact rfl) (by first | with_reducible assumption | exact rfl); clear hr0) | (with_reducible refine at_list ?_; refine wpList_wide_g rfl rfl Try.underlying28 Try.underlying39 rfl ?_; intro r n hr0; have hr := hr0 _ (by first | with_reducible assumption | exact rfl); clear hr0) | (with_reducible refine at_list ?_; refine wpList_wide rfl rfl rfl Try.underlying28 Try.underlying39 ?_; intro r n hr0; have hr := hr0 _ (by first | with_reducible assumption | exact rfl); clear hr0))
  go_ret
  exact ⟨by simp only [*]; rfl, _, rfl⟩
set_option maxHeartbeats 400000 in
theorem checked_any (x : Nat) (w : World) : Calls Try.prog 47 #[.float .f32 x] w (RFB w .f32 (chk (cn .f32 x)) (fin .f32 (cn .f32 x))) := by
  rcases h : fin .f32 (cn .f32 x)
  · go_enter Try.func47, Try.ntmps47
    go_wp2_with (first | (with_reducible refine at_list ?_; refine wpList_fop rfl rfl rfl rfl rfl ?_; intro r n hr0; have hr := hr0 _ _ (by first | with_reducible assumption | exact rfl) (by first | with_reducible assumption | exact rfl); clear hr0) | (with_reducible refine at_list ?_; refine wpList_neg rfl rfl rfl ?_; intro r hr0; have hr := hr0 _ (by first | with_reducible assumption | exact rfl); clear hr0) | (with_reducible refine at_list ?_; refine wpList_fop_g rfl rfl rfl rfl rfl ?_; intro r n hr0; have hr := hr0 _ _ (by first | with_reducible assumption | exact rfl) (by first | with_reducible assumption | exact rfl); clear hr0) | (with_reducible refine at_list ?_; refine wpList_wide_g rfl rfl Try.underlying28 Try.underlying39 rfl ?_; intro r n hr0; have hr := hr0 _ (by first | with_reducible assumption | exact rfl); clear hr0) | (with_reducible refine at_list ?_; refine wpList_wide rfl rfl rfl Try.underlying28 Try.underlying39 ?_; intro r n hr0; have hr := hr0 _ (by first | with_reducible assumption | exact rfl); clear hr0) | (go_at_call 41; refine (IsFinite_any _ _).mono ?_; rintro e w' ⟨rfl, n, rfl⟩))
    go_ret2
    exact ⟨_, rfl, (chk_no h).symm, _, rfl⟩
  · go_enter Try.func47, Try.ntmps47
    go_wp2_with (first | (with_reducible refine at_list ?_; refine wpList_fop rfl rfl rfl rfl rfl ?_; intro r n hr0; have hr := hr0 _ _ (by first | with_reducible assumption | exact rfl) (by first | with_reducible assumption | exact rfl); clear hr0) | (with_reducible refine at_list ?_; refine wpList_neg rfl rfl rfl ?_; intro r hr0; have hr := hr0 _ (by first | with_reducible assumption | exact rfl); clear hr0) | (with_reducible refine at_list ?_; refine wpList_fop_g rfl rfl rfl rfl rfl ?_; intro r n hr0; have hr := hr0 _ _ (by first | with_reducible assumption | exact rfl) (by first | with_reducible assumption | exact rfl); clear hr0) | (with_reducible refine at_list ?_; refine wpList_wide_g rfl rfl Try.underlying28 Try.underlying39 rfl ?_; intro r n hr0; have hr := hr0 _ (by first | with_reducible assumption | exact rfl); clear hr0) | (with_reducible refine at_list ?_; refine wpList_wide rfl rfl rfl Try.underlying28 Try.underlying39 ?_; intro r n hr0; have hr := hr0 _ (by first | with_reducible assumption | exact rfl); clear hr0) | (go_at_call 41; refine (IsFinite_any _ _).mono ?_; rintro e w' ⟨rfl, n, rfl⟩))
    go_ret2
    exact ⟨_, rfl, (chk_yes h).symm, _, rfl⟩
set_option maxHeartbeats 400000 in
theorem arePositive1_any (x : Nat) (w : World) : Calls Try.prog 76 #[.float .f32 x] w (RB w (!fin .f32 (cn .f32 x) || fle .f32 (cn .f32 x) (cn .f32 0))) := by
  rcases h : fin .f32 (cn .f32 x) <;>
  · go_enter Try.func76, Try.ntmps76
    go_wp2_with (first | (with_reducible refine at_list ?_; refine wpList_fop rfl rfl rfl rfl rfl ?_; intro r n hr0; have hr := hr0 _ _ (by first | with_reducible assumption | exact rfl) (by first | with_reducible assumption | exact rfl); clear hr0) | (with_reducible refine at_list ?_; refine wpList_neg rfl rfl rfl ?_; intro r hr0; have hr := hr0 _ (by first | with_reducible assumption | exact rfl); clear hr0) | (with_reducible refine at_list ?_; refine wpList_fop_g rfl rfl rfl rfl rfl ?_; intro r n hr0; have hr := hr0 _ _ (by first | with_reducible assumption | exact rfl) (by first | with_reducible assumption | exact rfl); clear hr0) | (with_reducible refine at_list ?_; refine wpList_wide_g rfl rfl Try.underlying28 Try.underlying39 rfl ?_; intro r n hr0; have hr := hr0 _ (by first | with_reducible assumption | exact rfl); clear hr0) | (with_reducible refine at_list ?_; refine wpList_wide rfl rfl rfl Try.underlying28 Try.underlying39 ?_; intro r n hr0; have hr := hr0 _ (by first | with_reducible assumption | exact rfl); clear hr0) | (go_at_call 41; refine (IsFinite_any _ _).mono ?_; rintro e w' ⟨rfl, n, rfl⟩))
    go_ret
    exact ⟨by simp, _, rfl⟩
set_option maxHeartbeats 400000 in
theorem areFinite1_any (x : Nat) (w : World) : Calls Try.prog 75 #[.float .f32 x] w (RB w (!fin .f32 (cn .f32 x))) := by
  go_enter Try.func75, Try.ntmps75
  go_wp2_with (first | (with_reducible refine at_list ?_; refine wpList_fop rfl rfl rfl rfl rfl ?_; intro r n hr0; have hr := hr0 _ _ (by first | with_reducible assumption | exact rfl) (by first | with_reducible assumption | exact rfl); clear hr0) | (with_reducible refine at_list ?_; refine wpList_neg rfl rfl rfl ?_; intro r hr0; have hr := hr0 _ (by first | with_reducible assumption | exact rfl); clear hr0) | (with_reducible refine at_list ?_; refine wpList_fop_g rfl rfl rfl rfl rfl ?_; intro r n hr0; have hr := hr0 _ _ (by first | with_reducible assumption | exact rfl) (by first | with_reducible assumption | exact rfl); clear hr0) | (with_reducible refine at_list ?_; refine wpList_wide_g rfl rfl Try.underlying28 Try.underlying39 rfl ?_; intro r n hr0; have hr := hr0 _ (by first | with_reducible assumption | exact rfl); clear hr0) | (with_reducible refine at_list ?_; refine wpList_wide rfl rfl rfl Try.underlying28 Try.underlying39 ?_; intro r n hr0; have hr := hr0 _ (by first | with_reducible assumption | exact rfl); clear hr0) | (go_at_call 41; refine (IsFinite_any _ _).mono ?_; rintro e w' ⟨rfl, n, rfl⟩))
  go_ret
  exact ⟨rfl, _, rfl⟩
set_option maxHeartbeats 1000000 in
theorem IndexFunc_any (g : Nat) (p : Nat → Bool) (xs : List Nat) (v : Value) (w : World) (hs : FS w v xs) (hcf : ∀ x w', (callFunc g #[.float .f32 x]).run Try.prog w' = .ok (.enter g #[.float .f32 x]) w')
    (hg : ∀ j, j < xs.length → ∀ m, Calls Try.prog g #[.float .f32 (xs.getD j 0)] (w.drewN m) (RB (w.drewN m) (p (xs.getD j 0)))) :
    Calls Try.prog 49 #[v, .func (.func g) #[] #[]] w (RI w (findI p xs)) := by
  have HG := Lib.hid hg; clear hg
  obtain ⟨q, c, rfl, hc1, hc0, HV⟩ := FS_view hs
  have HV := Lib.hid HV
  clear hs
  go_enter Try.func49, Try.ntmps49
  go_wp2
  go_loopw [8] (fun t wr => ∃ k m : Nat, k ≤ xs.length ∧ t = .int .i64 k ∧ wr = w.drewN m ∧ Hid (∀ j, j < k → p (xs.getD j 0) = false)) (fun t _ => xs.length - (intOf t).toNat)
  case atStart => exact ⟨0, 0, Nat.zero_le _, rfl, rfl, fun j hj => by omega⟩
  case round =>
    obtain ⟨k, m, hk, rfl, rfl, hp⟩ := hrel
    by_cases hlt : k < xs.length
    · obtain ⟨b, o, rfl, hcell⟩ := HV.out k hlt
      clear HV
      generalize hx : xs.getD k 0 = x at hcell
      have Hx := Lib.hid hx; clear hx
      rcases hb : p x
      · go_wp2_with fail
        refine (Hx.out ▸ HG.out k hlt m).mono ?_
        rintro e w' ⟨rfl, n, rfl⟩
        go_wp2_with fail
        go_roundw
        case rel => exact ⟨k + 1, m + n, by omega, by go_num, by simp, fun j hj => by rcases Nat.lt_succ_iff_lt_or_eq.1 hj with h | rfl; exact hp j h; rw [Hx.out]; exact hb⟩
        case measure => simp [intOf]; omega
      · go_wp2_with fail
        refine (Hx.out ▸ HG.out k hlt m).mono ?_
        rintro e w' ⟨rfl, n, rfl⟩
        go_wp2_with fail
        go_ret
        exact ⟨by rw [findI_at p xs k hlt hp (by rw [Hx.out]; exact hb)]; rfl, m + n, by simp⟩
    · go_wp2
      go_ret
      exact ⟨by rw [findI_no p xs (fun j hj => hp.out j (by omega))]; rfl, m, rfl⟩
theorem findI_ge (p : Nat → Bool) (xs : List Nat) : decide (0 ≤ findI p xs) = xs.any p := by
  unfold findI
  cases h : xs.findIdx? p with
  | none =>
    have := List.findIdx?_eq_none_iff.1 h
    simp only [show ¬ (0 : Int) ≤ -1 by omega, decide_false]
    symm
    rw [List.any_eq_false]
    intro x hx
    simpa using this x hx
  | some i =>
    rw [List.findIdx?_eq_some_iff_getElem] at h
    obtain ⟨hi, hp, _⟩ := h
    simp only [show (0 : Int) ≤ (i : Int) by omega, decide_true]
    symm
    rw [List.any_eq_true]
    exact ⟨_, List.getElem_mem hi, hp⟩
set_option maxHeartbeats 400000 in
theorem ContainsFunc_any (g : Nat) (p : Nat → Bool) (xs : List Nat) (v : Value) (w : World) (hs : FS w v xs) (hcf : ∀ x w', (callFunc g #[.float .f32 x]).run Try.prog w' = .ok (.enter g #[.float .f32 x]) w')
    (hg : ∀ x m, Calls Try.prog g #[.float .f32 x] (w.drewN m) (RB (w.drewN m) (p x))) :
    Calls Try.prog 74 #[v, .func (.func g) #[] #[]] w (RB w (xs.any p)) := by
  have HC := Lib.hid hcf; clear hcf
  have HG := Lib.hid hg; clear hg
  have hq := findI_ge p xs
  go_enter Try.func74, Try.ntmps74
  go_wp2_with fail
  refine (IndexFunc_any g p xs v _ hs HC.out (fun j _ m => HG.out _ m)).mono ?_
  rintro e w' ⟨rfl, n, rfl⟩
  go_wp2_with fail
  go_ret
  exact ⟨rfl, _, rfl⟩
set_option maxHeartbeats 400000 in
theorem arePositive_any (xs : List Nat) (v : Value) (w : World) (hs : FS w v xs) :
    Calls Try.prog 45 #[v] w (RB w (!xs.any fun x => !fin .f32 (cn .f32 x) || fle .f32 (cn .f32 x) (cn .f32 0))) := by
  go_enter Try.func45, Try.ntmps45
  go_wp2_with fail
  refine (ContainsFunc_any 76 (fun x => !fin .f32 (cn .f32 x) || fle .f32 (cn .f32 x) (cn .f32 0)) xs v _ hs (fun x w' => by kernel_rfl) (fun x m => arePositive1_any x _)).mono ?_
  rintro e w' ⟨rfl, n, rfl⟩
  go_wp2_with fail
  go_ret
  exact ⟨rfl, _, rfl⟩
set_option maxHeartbeats 400000 in
theorem areFinite_any (xs : List Nat) (v : Value) (w : World) (hs : FS w v xs) :
    Calls Try.prog 44 #[v] w (RB w (!xs.any fun x => !fin .f32 (cn .f32 x))) := by
  go_enter Try.func44, Try.ntmps44
  go_wp2_with fail
  refine (ContainsFunc_any 75 (fun x => !fin .f32 (cn .f32 x)) xs v _ hs (fun x w' => by kernel_rfl) (fun x m => areFinite1_any x _)).mono ?_
  rintro e w' ⟨rfl, n, rfl⟩
  go_wp2_with fail
  go_ret
  exact ⟨rfl, _, rfl⟩
theorem order_self {k : FloatKind} {c : Nat} (h : isN k c = false) : k.format.order c c = some .eq := by
  unfold isN FloatKind.decode at h
  unfold Ieee.Format.order
  cases hd : k.format.read c with
  | nan => rw [hd] at h; cases h
  | infinity s => simp [Ieee.Datum.order, compare, compareOfLessAndEq]
  | number s m e => simp [Ieee.Datum.order, compare, compareOfLessAndEq]
theorem feq_self (k : FloatKind) (c : Nat) : feq k c c = !isN k c := by
  unfold feq
  cases h : isN k c with
  | true => rw [order_nan_l h]; rfl
  | false => rw [order_self h]; rfl
theorem feq_cn_self (k : FloatKind) (x : Nat) : feq k (cn k x) (cn k x) = !isN k x := by rw [feq_self, isN_cn]
end Go.Proofs.Ytpnkapdemgieaaa
set_option linter.unusedSimpArgs false
set_option linter.unusedVariables false
set_option linter.unusedSectionVars false
namespace Go.Proofs.Ytpnkapdemgieaaa
open Go Go.RowKit
@[go_sem] theorem size_drewN' (w : World) (n : Nat) : (w.drewN n).heap.size = w.heap.size := rfl
@[go_sem] theorem alloc_drewN (w : World) (n : Nat) (o : Obj) : (w.drewN n).alloc o = (w.alloc o).drewN n := rfl
@[go_sem] theorem setCell_drewN (w : World) (n : Nat) (a : Addr) (v : Value) : (w.drewN n).setCell a v = (w.setCell a v).drewN n := rfl
/-- These blocks are there. -/
def Trk (w : World) (L : List Nat) : Prop := ∀ b ∈ L, b < w.heap.size
theorem Trk.nil (w : World) : Trk w [] := fun b h => by cases h
theorem Trk.more {w : World} {L : List Nat} {b : Nat} (h : Trk w L) (hb : b < w.heap.size) : Trk w (b :: L) := fun c hc => by
  rcases List.mem_cons.1 hc with rfl | hc
  · exact hb
  · exact h c hc
theorem Trk.alloc {w : World} {L : List Nat} (h : Trk w L) (o : Obj) : Trk (w.alloc o) (w.heap.size :: L) := fun c hc => by
  rw [World.size_alloc]
  rcases List.mem_cons.1 hc with rfl | hc
  · omega
  · have := h c hc; omega
theorem Trk.setCell {w : World} {L : List Nat} (h : Trk w L) (a : Addr) (v : Value) : Trk (w.setCell a v) L := fun c hc => by rw [World.size_setCell]; exact h c hc
theorem Trk.drewN {w : World} {L : List Nat} (h : Trk w L) (n : Nat) : Trk (w.drewN n) L := h
theorem Trk.drew {w : World} {L : List Nat} (h : Trk w L) : Trk w.drew L := h
theorem Trk.drawn {w : World} {L : List Nat} (h : Trk w L) (n : Nat) : Trk { w with drawn := n } L := h
/-- They hold what they held. -/
def SameOn (w w' : World) : List Nat → Prop
  | [] => True
  | b :: L => ((b < w'.heap.size ∧ b ≠ w'.heap.size ∧ w'.heap.size ≠ b ∧ (∀ k, b ≠ w'.heap.size + k) ∧ (∀ k, w'.heap.size + k ≠ b)) ∧ (∀ o, w'.cell? ⟨b, o, none⟩ = w.cell? ⟨b, o, none⟩) ∧ (∀ o, w'.frozen? ⟨b, o, none⟩ = w.frozen? ⟨b, o, none⟩)) ∧ SameOn w w' L
theorem bv_next {w w' : World} (hb : Below w.heap.size w w') : ∀ {L : List Nat}, Trk w L → Trk w' L ∧ SameOn w w' L
  | [], _ => ⟨Trk.nil _, trivial⟩
  | b :: L, h => by
    have h0 : b < w.heap.size := h b (by simp)
    have h1 := hb.size
    obtain ⟨i1, i2⟩ := bv_next hb (L := L) (fun c hc => h c (by simp [hc]))
    exact ⟨i1.more (by omega), ⟨⟨by omega, by omega, by omega, fun k => by omega, fun k => by omega⟩, fun o => hb.cell h0, fun o => hb.frozen h0⟩, i2⟩
/-- What a function that makes memory hands back: a float, known but for a NaN's bits; a float and a bool. -/
def BF (w : World) (k : FloatKind) (c : Nat) (e : Ending) (w' : World) : Prop := ∃ r, e = .returned (.float k r) ∧ cn k r = c ∧ Below w.heap.size w w'
def BFB (w : World) (k : FloatKind) (c : Nat) (b : Bool) (e : Ending) (w' : World) : Prop := ∃ r, e = .returned (.tuple #[.float k r, .bool b]) ∧ cn k r = c ∧ Below w.heap.size w w'
theorem below_draws {w : World} (n : Nat) : Below w.heap.size w (w.drewN n) := below_drewN (Below.refl _ _) n
theorem RB.bv {w : World} {b : Bool} {e : Ending} {w' : World} (h : RB w b e w') : BV w (.bool b) e w' := by obtain ⟨rfl, n, rfl⟩ := h; exact ⟨rfl, below_draws _⟩
theorem RI.bv {w : World} {i : Int} {e : Ending} {w' : World} (h : RI w i e w') : BV w (.int .i64 i) e w' := by obtain ⟨rfl, n, rfl⟩ := h; exact ⟨rfl, below_draws _⟩
theorem RF.bf {w : World} {k : FloatKind} {c : Nat} {e : Ending} {w' : World} (h : RF w k c e w') : BF w k c e w' := by obtain ⟨r, rfl, hr, n, rfl⟩ := h; exact ⟨r, rfl, hr, below_draws _⟩
/-- A float of a class, in a plan; a float and a bool. -/
def Clm.fl (k : FloatKind) (c : Nat) : Clm := ⟨1, fun _ v => ∃ r, v = .float k r ∧ cn k r = cn k c, fun _ _ _ => True, fun _ => ⟨_, c, rfl, rfl⟩, fun _ _ _ _ _ _ => trivial, fun h => nomatch h⟩
section
variable {P : Program} {ops : Array Oper} {Q : Exit → Act → World → Prop} {W : World}
variable {l : List Oper} {cs : List Clm} {i : Nat} {ks : List (Nat × (World → Prop))} {a : Act} {o : Oper}
theorem wpC_callF (k : FloatKind) (c : Nat) (hw : Region.wanted o (yielded ops a.tmps) = true) {f : FuncId} {args : Array Value} (h1 : ∀ w, (execOp a.eval o).run P w = .ok (.enter f args) w) (hcc : cn k c = c)
    (hc : ∀ w, Below W.heap.size W w → depK o ks w → Calls P f args w (BF w k c))
    (h : ∀ r, cn k r = c → wpC P ops Q W l cs (i + 1) ((i, fun _ => True) :: ks) (a.put o.dst (.float k r))) : wpC P ops Q W (o :: l) (Clm.fl k c :: cs) i ks a := by
  refine wpC_call (Clm.fl k c) rfl hw h1 (fun w hb hk => (hc w hb hk).mono ?_) ?_
  · rintro e w' ⟨r, rfl, hr, hbl⟩; exact ⟨_, rfl, hbl, ⟨r, rfl, by rw [hr, hcc]⟩, trivial⟩
  · rintro v ⟨r, rfl, hr⟩; exact h r (by rw [hr, hcc])
/-- '-' of a float; 'float64(x)'. -/
def Clm.neg : Clm := ⟨0, fun x v => ∀ k p, x = [.float k p] → ∃ r, v = .float k r ∧ cn k r = fneg k (cn k p), fun _ _ _ => True,
  fun x => by
    by_cases h : ∃ k p, x = [.float k p]
    · obtain ⟨k, p, rfl⟩ := h
      refine ⟨.float k (Op.negFloat k p), fun k' p' e => ?_⟩
      simp only [List.cons.injEq, Value.float.injEq, and_true] at e
      obtain ⟨rfl, rfl⟩ := e
      exact ⟨_, rfl, cn_neg _ _⟩
    · exact ⟨undef, fun k p e => absurd ⟨k, p, e⟩ h⟩,
  fun _ _ _ _ _ _ => trivial, fun _ _ _ _ => trivial⟩
def Clm.wide : Clm := ⟨0, fun x v => ∀ p, x = [.float .f32 p] → ∃ r, v = .float .f64 r ∧ cn .f64 r = Go.Proofs.Ytpnkapdemgieaaa.wide (cn .f32 p), fun _ _ _ => True,
  fun x => by
    by_cases h : ∃ p, x = [.float .f32 p]
    · obtain ⟨p, rfl⟩ := h
      refine ⟨.float .f64 (Go.Proofs.Ytpnkapdemgieaaa.wide (cn .f32 p)), fun p' e => ?_⟩
      simp only [List.cons.injEq, Value.float.injEq, and_true, true_and] at e
      subst e
      exact ⟨_, rfl, cn_wide _⟩
    · exact ⟨undef, fun p e => absurd ⟨p, e⟩ h⟩,
  fun _ _ _ _ _ _ => trivial, fun _ _ _ _ => trivial⟩
theorem wpC_wide {src dst : TypeId} {X : Operand} (ho : o.op = .convert src dst X) {x : Nat} (hx : a.eval X = .float .f32 x) (hs : P.underlying src = some (.float .f32)) (hd : P.underlying dst = some (.float .f64)) (hw : Region.wanted o (yielded ops a.tmps) = true)
    (h : ∀ r, (∀ cx, cn .f32 x = cx → cn .f64 r = Go.Proofs.Ytpnkapdemgieaaa.wide cx) → wpC P ops Q W l cs (i + 1) ks (a.put o.dst (.float .f64 r))) : wpC P ops Q W (o :: l) (Clm.wide :: cs) i ks a := by
  have hl : o.op.operands.toList.map a.eval = [.float .f32 x] := by rw [ho]; simp [Op.operands, hx]
  simp only [wpC]
  rw [hl]
  refine ⟨.inl ⟨hw, fun _ w => ?_, fun h => absurd rfl h⟩, fun u hu => ?_⟩
  · obtain ⟨r, n, h1, h2⟩ := run_convF (P := P) .f32 .f64 (by decide) src dst x hs hd w (wide_fits x)
    have hr : (execOp a.eval o).run P w = .ok (.value (.float .f64 r)) (w.drewN n) := by
      simp only [execOp, ho, hx]
      simp [h1, Result.andThen]
    rw [hr, hl]
    refine ⟨⟨n, rfl⟩, fun p' e => ?_⟩
    simp only [List.cons.injEq, Value.float.injEq, and_true, true_and] at e
    subst e
    exact ⟨_, rfl, by rw [h2, wide_cn]; rfl⟩
  · obtain ⟨r, rfl, hr⟩ := hu x rfl
    exact h r (by rintro cx rfl; exact hr)
end
end Go.Proofs.Ytpnkapdemgieaaa
set_option linter.unusedSimpArgs false
set_option linter.unusedVariables false
set_option linter.unusedSectionVars false
namespace Go.Proofs.Ytpnkapdemgieaaa
open Go Go.RowKit
/-- Is a stuff valid. -/
def St.ok (s : St) : Bool := abv (cn .f32 s.a) && (abv (cn .f32 s.b) && (abv (cn .f32 s.c) && (abv (cn .f32 s.d) && (fin .f32 (cn .f32 s.p) && abv (cn .f32 s.l)))))
/-- A stuff's cells in memory. -/
def St.at (s : St) (w : World) (b o : Nat) : Prop := w.cell? ⟨b, o, none⟩ = some (.float .f32 s.a) ∧ w.cell? ⟨b, o + 1, none⟩ = some (.float .f32 s.b) ∧ w.cell? ⟨b, o + 2, none⟩ = some (.float .f32 s.c) ∧
  w.cell? ⟨b, o + 3, none⟩ = some (.float .f32 s.d) ∧ w.cell? ⟨b, o + 4, none⟩ = some (.float .f32 s.p) ∧ w.cell? ⟨b, o + 5, none⟩ = some (.float .f32 s.l)
theorem fin_not_nan {k : FloatKind} {c : Nat} (h : fin k c = true) : isN k c = false := by
  cases hn : isN k c with
  | false => rfl
  | true =>
    unfold fin fop at h
    rw [floatBits_nan_l hn] at h
    simp only [Option.getD_none, feq] at h
    rw [order_nan_l (isN_qn k)] at h
    cases h
theorem isN_lit (k : FloatKind) : isN k 0 = false := by cases k <;> decide +kernel
theorem cn_zero (k : FloatKind) : cn k 0 = 0 := cn_of_not (isN_lit k)
theorem order_total {k : FloatKind} {x y : Nat} (hx : isN k x = false) (hy : isN k y = false) : k.format.order x y ≠ none := by
  unfold isN FloatKind.decode at hx hy
  unfold Ieee.Format.order
  cases h1 : k.format.read x <;> rw [h1] at hx <;> cases h2 : k.format.read y <;> rw [h2] at hy <;> simp_all [Ieee.Datum.isNaN, Ieee.Datum.order]
theorem fle_not_fgt {k : FloatKind} {x y : Nat} (hx : isN k x = false) (hy : isN k y = false) : fle k x y = !fgt k x y := by
  unfold fle fgt
  cases h : k.format.order x y with
  | none => exact absurd h (order_total hx hy)
  | some o => cases o <;> rfl
theorem flt_not_fge {k : FloatKind} {x y : Nat} (hx : isN k x = false) (hy : isN k y = false) : flt k x y = !fge k x y := by
  unfold flt fge
  cases h : k.format.order x y with
  | none => exact absurd h (order_total hx hy)
  | some o => cases o <;> rfl
theorem abv_neg (c : Nat) : (!fin .f32 c || fle .f32 c (cn .f32 0)) = !abv c := by
  unfold abv
  cases h : fin .f32 c with
  | false => rfl
  | true => simp [fle_not_fgt (fin_not_nan h) (by rw [isN_cn]; exact isN_lit _)]
theorem FS_of {w : World} {b o n c : Nat} {xs : List Nat} (hn : xs.length = n) (hc : n ≤ c) (hm : c ≤ 9223372036854775807) (h : ∀ i, i < n → w.cell? ⟨b, o + i, none⟩ = some (.float .f32 (xs.getD i 0))) : FS w (.slice (some ⟨b, o, none⟩) n c) xs := by
  subst hn
  exact ⟨_, c, rfl, hm, hc, fun i hi => ⟨b, o, rfl, h i hi⟩⟩
end Go.Proofs.Ytpnkapdemgieaaa
set_option linter.unusedSimpArgs false
set_option linter.unusedVariables false
set_option linter.unusedSectionVars false
namespace Go.Proofs.Ytpnkapdemgieaaa
open Go Go.RowKit
/-- A stuff, all NaNs taken as one. -/
def St.k (s : St) : St := ⟨cn .f32 s.a, cn .f32 s.b, cn .f32 s.c, cn .f32 s.d, cn .f32 s.p, cn .f32 s.l⟩
def warmC (s : St) (h : Nat) : Nat := if flt .f32 h (cn .f32 0) then fop .add .f32 s.p (fop .quo .f32 h s.a) else if fgt .f32 h s.l then fop .add .f32 s.p (fop .quo .f32 (fop .sub .f32 h s.l) s.b) else s.p
def partC (s : St) (h : Nat) : Nat := if flt .f32 h (cn .f32 0) then cn .f32 0 else if fgt .f32 h s.l then cn .f32 1065353216 else fop .quo .f32 h s.l
def easeC (s : St) (h : Nat) : Nat := fop .add .f32 s.c (fop .mul .f32 (partC s h) (fop .sub .f32 s.d s.c))
theorem cn_warmC (s : St) (h : Nat) : cn .f32 (warmC s.k h) = warmC s.k h := by unfold warmC; split; exact cn_fop _ _ _ _; split; exact cn_fop _ _ _ _; exact cn_cn _ _
theorem cn_partC (s : St) (h : Nat) : cn .f32 (partC s h) = partC s h := by unfold partC; split; exact cn_cn _ _; split; exact cn_cn _ _; exact cn_fop _ _ _ _
theorem cn_easeC (s : St) (h : Nat) : cn .f32 (easeC s h) = easeC s h := cn_fop _ _ _ _
end Go.Proofs.Ytpnkapdemgieaaa
set_option linter.unusedSimpArgs false
set_option linter.unusedVariables false
set_option linter.unusedSectionVars false
namespace Go.Proofs.Ytpnkapdemgieaaa
open Go Go.RowKit
/-- A number if all is valid and it is finite. -/
def gF (ok : Bool) (c : Nat) : Nat := if ok then chk c else cn .f32 0
def gB (ok : Bool) (c : Nat) : Bool := ok && fin .f32 c
theorem cn_chk {c : Nat} (h : cn .f32 c = c) : cn .f32 (chk c) = chk c := by unfold chk; split; exact h; exact cn_cn .f32 0
theorem cn_gF {ok : Bool} {c : Nat} (h : cn .f32 c = c) : cn .f32 (gF ok c) = gF ok c := by unfold gF; split; exact cn_chk h; exact cn_cn .f32 0
/-- Is a datum a number. -/
def isNum : Ieee.Datum → Bool | .number .. => true | _ => false
theorem fin_num (k : FloatKind) (c : Nat) : fin k c = isNum (k.decode c) := by
  unfold fin fop floatBits Ieee.Format.sub
  show feq k (((((k.decode c).sum (k.decode c).opposite).map k.format.write).getD (qn k))) (cn k 0) = _
  rw [cn_zero]
  cases hd : k.decode c with
  | nan s t =>
    simp only [Ieee.Datum.sum, Ieee.Datum.opposite, Option.map_none, Option.getD_none, isNum, feq]
    rw [order_nan_l (isN_qn k)]; rfl
  | infinity s =>
    have : (Ieee.Datum.infinity s).sum (Ieee.Datum.infinity s).opposite = none := by cases s <;> rfl
    rw [this]
    simp only [Option.map_none, Option.getD_none, isNum, feq]
    rw [order_nan_l (isN_qn k)]; rfl
  | number s m i =>
    have : (Ieee.Datum.number s m i).sum (Ieee.Datum.number s m i).opposite = some (.number false 0 (min i i)) := by
      simp only [Ieee.Datum.sum, Ieee.Datum.opposite]
      have h0 : Ieee.signed s m (i - min i i).toNat + Ieee.signed (!s) m (i - min i i).toNat = 0 := by
        cases s <;> simp [Ieee.signed] <;> omega
      rw [h0]
      cases s <;> rfl
    rw [this]
    have hw : k.format.write (.number false 0 (min i i)) = 0 := by
      simp [Ieee.Format.write, Ieee.Format.nearest, Ieee.Format.word]
    simp only [Option.map_some, Option.getD_some, hw, isNum, feq]
    rw [order_self (isN_lit k)]; rfl
theorem FS1 {w : World} {b x : Nat} (h : w.cell? ⟨b, 0, none⟩ = some (.float .f32 x)) : FS w (.slice (some ⟨b, 0, none⟩) 1 1) [x] := by
  refine FS_of (o := 0) (n := 1) (c := 1) rfl (by omega) (by omega) fun i hi => ?_
  obtain rfl : i = 0 := by omega
  exact h
theorem arePos1_any (x : Nat) (v : Value) (w : World) (hs : FS w v [x]) : Calls Try.prog 45 #[v] w (RB w (abv (cn .f32 x))) := by
  have h := arePositive_any [x] v w hs
  simp only [abv_neg, List.any_cons, List.any_nil, Bool.or_false, Bool.not_not] at h
  exact h
end Go.Proofs.Ytpnkapdemgieaaa
set_option linter.unusedSimpArgs false
set_option linter.unusedVariables false
set_option linter.unusedSectionVars false
namespace Go.Proofs.Ytpnkapdemgieaaa
open Go Go.RowKit
theorem FS.later {w w' : World} {v : Value} {xs : List Nat} (h : FS w v xs) (hb : Below w.heap.size w w') : FS w' v xs := by
  obtain ⟨p, c, rfl, h1, h2, h3⟩ := h
  refine ⟨p, c, rfl, h1, h2, fun i hi => ?_⟩
  obtain ⟨b, o, rfl, hc⟩ := h3 i hi
  exact ⟨b, o, rfl, cell_later hb hc⟩
theorem FS.drew {w : World} {v : Value} {xs : List Nat} (h : FS w v xs) (n : Nat) : FS (w.drewN n) v xs := h
end Go.Proofs.Ytpnkapdemgieaaa
set_option linter.unusedSimpArgs false
set_option linter.unusedVariables false
set_option linter.unusedSectionVars false
namespace Go.Proofs.Ytpnkapdemgieaaa
open Go Go.RowKit
set_option maxRecDepth 100000 in
theorem Try.infoF32 : (Try.prog.info? 28).map (fun i => (i.zero, i.size, i.bytes)) = some (some (.float .f32 0), 1, 4) := by kernel_rfl
/-- A slice of numbers that the call itself has made, from block number B on. -/
def OF (B : Nat) (w : World) (u : Value) (xs : List Nat) : Prop := w.ownsRow B 28 1 u xs.length (xs.map (Value.float .f32))
theorem OF.block {B : Nat} {w : World} {u : Value} {xs : List Nat} (h : OF B w u xs) : ∀ k, u.ownBlock = some k → B ≤ k ∧ k < w.heap.size := World.ownsRow.lt h
theorem OF.kept {B : Nat} {w w' : World} {u : Value} {xs : List Nat} {row : Option Nat} (h : OF B w u xs) (hg : w.grownBy w' row) (hne : u.ownBlock = none ∨ u.ownBlock ≠ row) : OF B w' u xs := World.ownsRow.kept h hg hne
theorem below_grown {w w' : World} (h : Below w.heap.size w w') (row : Option Nat) : w.grownBy w' row := ⟨h.os, h.tape, h.output, h.size, fun k hk _ => h.block k hk⟩
theorem OF.later {B : Nat} {w w' : World} {u : Value} {xs : List Nat} (h : OF B w u xs) (hb : Below w.heap.size w w') : OF B w' u xs := by
  cases hu : u.ownBlock with
  | none => exact h.kept (below_grown hb none) (.inl hu)
  | some k => exact h.kept (below_grown hb none) (.inr (by rw [hu]; simp))
theorem OF.base {B B' : Nat} {w : World} {u : Value} {xs : List Nat} (h : OF B w u xs) (hB : B' ≤ B) : OF B' w u xs := by
  refine ⟨h.1, ?_⟩
  rcases h.2 with h2 | ⟨g, c, cur, r1, r2, r⟩
  · exact .inl h2
  · exact .inr ⟨g, c, cur, r1, by omega, r⟩
/-- An own slice, seen. -/
theorem OF.view {B : Nat} {w : World} {u : Value} {xs : List Nat} (h : OF B w u xs) : (u = .slice none 0 0 ∧ xs = []) ∨ ∃ g c, u = .slice (some ⟨g, 0, none⟩) xs.length c ∧ B ≤ g ∧ g < w.heap.size ∧ xs.length ≤ c ∧ c ≤ maxLen ∧ ∀ j, j < xs.length → w.cell? ⟨g, j, none⟩ = some (.float .f32 (xs.getD j 0)) ∧ w.frozen? ⟨g, j, none⟩ = false := by
  rcases h.2 with ⟨h1, h2⟩ | ⟨g, c, cur, h1, h2, h3, h4, h5, _⟩
  · exact .inl ⟨h1, by simpa using h2⟩
  · subst h1
    refine .inr ⟨g, c, rfl, h2, (OF.block h g rfl).2, h4, h5, fun j hj => ⟨?_, World.ownsRow.frozenAt h j⟩⟩
    have := World.ownsRow.cellAt h j (by simpa using hj)
    rw [this]
    simp [hj]
theorem OF.setCell {B : Nat} {w : World} {u : Value} {xs : List Nat} (h : OF B w u xs) {a : Addr} (ha : a.block < B) (v : Value) : OF B (w.setCell a v) u xs := by
  refine h.kept (row := some a.block) ⟨rfl, rfl, rfl, by simp, fun k _ hk => Below.heap_setCell _ _ _ _ (fun e => hk (by rw [e]))⟩ ?_
  cases hu : u.ownBlock with
  | none => exact .inl rfl
  | some k =>
    refine .inr fun e => ?_
    have := (h.block k hu).1
    simp at e
    omega
theorem OF.alloc {B : Nat} {w : World} {u : Value} {xs : List Nat} (h : OF B w u xs) (o : Obj) : OF B (w.alloc o) u xs := h.later ((Below.refl _ _).alloc (Nat.le_refl _) o)
theorem OF.drewN {B : Nat} {w : World} {u : Value} {xs : List Nat} (h : OF B w u xs) (n : Nat) : OF B (w.drewN n) u xs := h.later (below_drewN (Below.refl _ _) n)
theorem OF.shape {B : Nat} {w : World} {u : Value} {xs : List Nat} (h : OF B w u xs) : ∃ q c, u = .slice q xs.length c := by
  rcases h.view with ⟨rfl, rfl⟩ | ⟨g, c, rfl, _⟩
  · exact ⟨none, 0, rfl⟩
  · exact ⟨_, c, rfl⟩
theorem OF.fs {B : Nat} {w : World} {u : Value} {xs : List Nat} (h : OF B w u xs) : FS w u xs := by
  rcases h.view with ⟨rfl, rfl⟩ | ⟨g, c, rfl, _, _, h1, h2, h3⟩
  · exact ⟨none, 0, rfl, by omega, by simp, fun i hi => by simp at hi⟩
  · exact ⟨_, c, rfl, by simpa [maxLen] using h2, h1, fun i hi => ⟨g, 0, rfl, by rw [Nat.zero_add]; exact (h3 i hi).1⟩⟩
theorem FS.kept {w w' : World} {v : Value} {xs : List Nat} {row : Option Nat} (h : FS w v xs) (hg : w.grownBy w' row) (hne : v.ownBlock = none ∨ v.ownBlock ≠ row) : FS w' v xs := by
  obtain ⟨p, c, rfl, h1, h2, h3⟩ := h
  refine ⟨p, c, rfl, h1, h2, fun i hi => ?_⟩
  obtain ⟨b, o, rfl, hc⟩ := h3 i hi
  refine ⟨b, o, rfl, hg.cell hc ?_⟩
  rcases hne with hne | hne
  · cases hne
  · exact hne
/-- In a plan: a call that hands back an own slice, somewhere in its value. -/
def Clm.own (mk : Value → Value) (B : Nat) (xs : List Nat) : Clm := ⟨1, fun _ v => ∃ q c, v = mk (.slice q xs.length c), fun _ v w => ∀ u, v = mk u → OF B w u xs, fun _ => ⟨_, none, 0, rfl⟩,
  fun _ v w w' h hb u e => (h u e).later hb, fun h => nomatch h⟩
theorem wpC_callO {P : Program} {ops : Array Oper} {Q : Exit → Act → World → Prop} {W : World} {l : List Oper} {cs : List Clm} {i : Nat} {ks : List (Nat × (World → Prop))} {a : Act} {o : Oper}
    (mk : Value → Value) (xs : List Nat) (hw : Region.wanted o (yielded ops a.tmps) = true) {f : FuncId} {args : Array Value} (h1 : ∀ w, (execOp a.eval o).run P w = .ok (.enter f args) w)
    (hc : ∀ w, Below W.heap.size W w → depK o ks w → Calls P f args w (fun e w' => ∃ u, e = .returned (mk u) ∧ Below w.heap.size w w' ∧ OF w.heap.size w' u xs)) (hmk : ∀ u u', mk u = mk u' → u = u')
    (h : ∀ q c, wpC P ops Q W l cs (i + 1) ((i, fun w => ∀ u, mk (.slice q xs.length c) = mk u → OF W.heap.size w u xs) :: ks) (a.put o.dst (mk (.slice q xs.length c)))) : wpC P ops Q W (o :: l) (Clm.own mk W.heap.size xs :: cs) i ks a := by
  refine wpC_call (Clm.own mk W.heap.size xs) rfl hw h1 (fun w hb hk => (hc w hb hk).mono ?_) ?_
  · rintro e w' ⟨u, rfl, hbl, hO⟩
    obtain ⟨q, c, rfl⟩ := hO.shape
    exact ⟨_, rfl, hbl, ⟨q, c, rfl⟩, fun u' e => by rw [← hmk _ _ e]; exact hO.base hb.size⟩
  · rintro v ⟨q, c, rfl⟩; exact h q c
end Go.Proofs.Ytpnkapdemgieaaa
set_option linter.unusedSimpArgs false
set_option linter.unusedVariables false
set_option linter.unusedSectionVars false
namespace Go.Proofs.Ytpnkapdemgieaaa
open Go Go.RowKit
theorem wp_named {P : Program} {c : Code} {Q : Exit → Act → World → Prop} {a : Act} {w : World} (h : ∀ W, W = w → c.wp P Q a W) : c.wp P Q a w := h _ rfl
/-- The walk stands still here. -/
def Stop (p : Prop) : Prop := p
theorem stop_here {p : Prop} (h : Stop p) : p := h
theorem OF.nil0 (B : Nat) (w : World) : OF B w (.slice .none 0 0) [] := World.ownsRow_nil _ _ _ _
theorem OF.empty {B n : Nat} (w : World) (t : TypeId) (hn : n = w.heap.size) (hB : B ≤ w.heap.size) (ht : t = 28) : OF B (w.alloc (.cells #[] t)) (.slice (some ⟨n, 0, .none⟩) 0 0) [] := by
  subst ht
  subst hn
  exact World.ownsRow_lit w #[] 0 hB (by simp) (by simp)
theorem wpList_app {B : Nat} {xs : List Nat} {v : Value} {b r : Nat} {w : World} {ops : Array Oper} {rest : List Oper} {o : Oper} {a : Act} {Q : Exit → Act → World → Prop} (hg : o.guard = .none) {s x : Operand}
    (ho : o.op = .call { callee := .builtin .append, args := #[s, x], argTypes := #[24, 24] }) (hs : a.eval s = v) (hx : a.eval x = .slice (some ⟨b, 0, .none⟩) 1 1) (hO : OF B w v xs) (hc : w.cell? ⟨b, 0, .none⟩ = some (.float .f32 r)) (hn : xs.length < 1048576) (hB : B ≤ w.heap.size)
    (h : ∀ q c w', OF B w' (.slice q (xs.length + 1) c) (xs ++ [r]) → Below B w w' → wpList Try.prog ops Q rest (a.put o.dst (.slice q (xs.length + 1) c)) w') : wpList Try.prog ops Q (o :: rest) a w := by
  obtain ⟨i0, hi, hz0, hz1, hz2⟩ := info_parts Try.infoF32
  refine wpList_append_own w hg s x 24 ho B 28 i0 (.float .f32 0) 1 4 Try.underlying24 hi hz0 hz1 hz2 rfl (by decide) v xs.length (xs.map (Value.float .f32)) hs hO ⟨b, 0, .none⟩ 1 1 [.float .f32 r] hx rfl ?_ ?_ (by unfold maxLen; omega) (by omega) hB ?_
  · intro j u hj
    match j, hj with
    | 0, hj => simp at hj; subst hj; simpa [Addr.add] using hc
    | j + 1, hj => simp at hj
  · intro u hu; simp at hu; subst hu; rfl
  · intro v' w' hown hgrow _
    have hO' : OF B w' v' (xs ++ [r]) := by
      unfold OF
      simpa using hown
    obtain ⟨q, c, rfl⟩ := hO'.shape
    simp only [List.length_append, List.length_cons, List.length_nil, Nat.zero_add] at hO' ⊢
    exact h q c w' hO' ((Below.refl _ _).grown hgrow hB fun k hk => (OF.block hO k hk).1)
/-- A slice of numbers (of these classes) that the call has made, and a bool. -/
def BC (w : World) (L : List Nat) (b : Bool) (e : Ending) (w' : World) : Prop := ∃ u ys, e = .returned (.tuple #[u, .bool b]) ∧ Below w.heap.size w w' ∧ OF w.heap.size w' u ys ∧ ys.map (cn .f32) = L
end Go.Proofs.Ytpnkapdemgieaaa
set_option linter.unusedSimpArgs false
set_option linter.unusedVariables false
set_option linter.unusedSectionVars false
namespace Go.Proofs.Ytpnkapdemgieaaa
open Go Go.RowKit
theorem FS.alloc {w : World} {v : Value} {xs : List Nat} (h : FS w v xs) (o : Obj) : FS (w.alloc o) v xs := h.later ((Below.refl _ _).alloc (Nat.le_refl _) o)
theorem FS.drewN {w : World} {v : Value} {xs : List Nat} (h : FS w v xs) (n : Nat) : FS (w.drewN n) v xs := h
end Go.Proofs.Ytpnkapdemgieaaa
set_option linter.unusedSimpArgs false
set_option linter.unusedVariables false
set_option linter.unusedSectionVars false
namespace Go.Proofs.Ytpnkapdemgieaaa
open Go Go.RowKit
/-- Only blocks from B on and ahead of S have turned; none is new. -/
structure Turn (B S : Nat) (w w' : World) : Prop where
  os : w'.os = w.os
  tape : w'.tape = w.tape
  output : w'.output = w.output
  size : w.heap.size ≤ w'.heap.size
  block : ∀ k, k < w.heap.size → k < B ∨ S ≤ k → w'.heap[k]? = w.heap[k]?
theorem Turn.refl (B S : Nat) (w : World) : Turn B S w w := ⟨rfl, rfl, rfl, Nat.le_refl _, fun _ _ _ => rfl⟩
theorem Turn.trans {B S : Nat} {a b c : World} (h : Turn B S a b) (h' : Turn B S b c) : Turn B S a c :=
  ⟨h'.os.trans h.os, h'.tape.trans h.tape, h'.output.trans h.output, Nat.le_trans h.size h'.size, fun k hk hr => (h'.block k (Nat.lt_of_lt_of_le hk h.size) hr).trans (h.block k hk hr)⟩
theorem Turn.draws {B S : Nat} {a b : World} (h : Turn B S a b) (n : Nat) : Turn B S a (b.drewN n) := ⟨h.os, h.tape, h.output, h.size, h.block⟩
theorem Turn.of {B S : Nat} {w w' : World} {u : Value} (hg : w.grownBy w' u.ownBlock) (h : ∀ k, u.ownBlock = some k → B ≤ k ∧ k < S) : Turn B S w w' :=
  ⟨hg.os, hg.tape, hg.output, hg.size, fun k hk hr => hg.block k hk fun e => by have := h k e.symm; omega⟩
theorem Turn.below {B S : Nat} {a b : World} (h : Below a.heap.size a b) : Turn B S a b := ⟨h.os, h.tape, h.output, h.size, fun k hk _ => h.block k hk⟩
theorem Turn.alloc {B S : Nat} {a b : World} (h : Turn B S a b) (o : Obj) : Turn B S a (b.alloc o) := h.trans (Turn.below ((Below.refl _ _).alloc (Nat.le_refl _) o))
theorem turn_track {B S : Nat} {w w' : World} (hg : Turn B S w w') : ∀ {L : List Nat}, Trk w L → (∀ b ∈ L, b < B ∨ S ≤ b) → Trk w' L ∧ SameOn w w' L
  | [], _, _ => ⟨Trk.nil _, trivial⟩
  | b :: L, h, hL => by
    have h0 : b < w.heap.size := h b (by simp)
    have h1 := hg.size
    obtain ⟨i1, i2⟩ := turn_track hg (L := L) (fun c hc => h c (by simp [hc])) (fun c hc => hL c (by simp [hc]))
    have hb := hL b (by simp)
    exact ⟨i1.more (by omega), ⟨⟨by omega, by omega, by omega, fun k => by omega, fun k => by omega⟩, fun o => World.cell?_of_block (hg.block b h0 hb), fun o => World.frozen?_of_block (hg.block b h0 hb)⟩, i2⟩
theorem turn_below {n B S : Nat} {w w' : World} (hg : Turn B S w w') (hn : n ≤ B) (hw : n ≤ w.heap.size) : Below n w w' :=
  ⟨hg.os, hg.tape, hg.output, hg.size, fun k hk => hg.block k (by omega) (.inl (by omega))⟩
/-- A row of the call's own, of n cells of a type, in a block from B on and ahead of S. -/
def RX (t : TypeId) (B S : Nat) (w : World) (u : Value) (n : Nat) (vs : List Value) : Prop := w.ownsRow B t 1 u n vs ∧ ∀ k, u.ownBlock = some k → k < S
section
variable {t : TypeId} {B S : Nat} {w w' : World} {u : Value} {n : Nat} {vs : List Value}
theorem RX.of (h : w.ownsRow B t 1 u n vs) : RX t B w.heap.size w u n vs := ⟨h, fun k hk => (World.ownsRow.lt h k hk).2⟩
theorem RX.lt (h : RX t B S w u n vs) : ∀ k, u.ownBlock = some k → B ≤ k ∧ k < S := fun k hk => ⟨(World.ownsRow.lt h.1 k hk).1, h.2 k hk⟩
theorem RX.kept {row : Option Nat} (h : RX t B S w u n vs) (hg : w.grownBy w' row) (hne : u.ownBlock = none ∨ u.ownBlock ≠ row) : RX t B S w' u n vs := ⟨World.ownsRow.kept h.1 hg hne, h.2⟩
theorem RX.later (h : RX t B S w u n vs) (hb : Below w.heap.size w w') : RX t B S w' u n vs := by
  cases hu : u.ownBlock with
  | none => exact h.kept (below_grown hb none) (.inl hu)
  | some k => exact h.kept (below_grown hb none) (.inr (by rw [hu]; simp))
theorem RX.alloc (h : RX t B S w u n vs) (o : Obj) : RX t B S (w.alloc o) u n vs := h.later ((Below.refl _ _).alloc (Nat.le_refl _) o)
theorem RX.drewN (h : RX t B S w u n vs) (m : Nat) : RX t B S (w.drewN m) u n vs := h.later (below_drewN (Below.refl _ _) m)
theorem RX.turn {B' S' : Nat} (h : RX t B S w u n vs) (hg : Turn B' S' w w') (hd : S ≤ B' ∨ S' ≤ B) : RX t B S w' u n vs := by
  refine ⟨?_, h.2⟩
  obtain ⟨h1, h2⟩ := h
  refine ⟨h1.1, ?_⟩
  rcases h1.2 with h3 | ⟨g, c, cur, e, hb, hg', r⟩
  · exact .inl h3
  · have hgS := h2 g (by rw [e]; rfl)
    have hgw : g < w.heap.size := (Array.getElem?_eq_some_iff.1 hg').1
    exact .inr ⟨g, c, cur, e, hb, (hg.block g hgw (by omega)).trans hg', r⟩
theorem RX.setCell (h : RX t B S w u n vs) {a : Addr} (ha : a.block < B ∨ S ≤ a.block) (v : Value) : RX t B S (w.setCell a v) u n vs := by
  refine h.kept (row := some a.block) ⟨rfl, rfl, rfl, by simp, fun k _ hk => Below.heap_setCell _ _ _ _ (fun e => hk (by rw [e]))⟩ ?_
  cases hu : u.ownBlock with
  | none => exact .inl rfl
  | some k =>
    refine .inr fun e => ?_
    have := h.lt k hu
    simp at e
    omega
end
def FX (B S : Nat) (w : World) (u : Value) (xs : List Nat) : Prop := RX 28 B S w u xs.length (xs.map (Value.float .f32))
section
variable {B S B' S' : Nat} {w w' : World} {u : Value} {xs : List Nat}
theorem FX.of (h : OF B w u xs) : FX B w.heap.size w u xs := RX.of h
theorem FX.own (h : FX B S w u xs) : OF B w u xs := h.1
theorem FX.later (h : FX B S w u xs) (hb : Below w.heap.size w w') : FX B S w' u xs := RX.later h hb
theorem FX.alloc (h : FX B S w u xs) (o : Obj) : FX B S (w.alloc o) u xs := RX.alloc h o
theorem FX.drewN (h : FX B S w u xs) (m : Nat) : FX B S (w.drewN m) u xs := RX.drewN h m
theorem FX.turn (h : FX B S w u xs) (hg : Turn B' S' w w') (hd : S ≤ B' ∨ S' ≤ B) : FX B S w' u xs := RX.turn h hg hd
theorem FX.setCell (h : FX B S w u xs) {a : Addr} (ha : a.block < B ∨ S ≤ a.block) (v : Value) : FX B S (w.setCell a v) u xs := RX.setCell h ha v
end
end Go.Proofs.Ytpnkapdemgieaaa
set_option linter.unusedSimpArgs false
set_option linter.unusedVariables false
set_option linter.unusedSectionVars false
namespace Go.Proofs.Ytpnkapdemgieaaa
open Go Go.RowKit
open Go.ChangeShapes Go.WideShapes Go.ChangeAt Go.RowKit Go.Joins
theorem spot_none {w : World} {a : Addr} {v : Value} (h : w.cell? a = some v) : a.spot = none := by
  unfold World.cell? at h
  split at h
  · split at h
    · cases h
    · rename_i hs; simpa using hs
  · cases h
section
variable {H : Type} {enc : TypeId × Value → H} {P : Program} {w : World} {base : Nat} {spare : Nat → Bool} {held : Bool}
end
section
variable {H : Type} {enc : TypeId × Value → H} {w : World} {base : Nat} {spare : Nat → Bool} {held : Bool}
end
end Go.Proofs.Ytpnkapdemgieaaa
set_option linter.unusedSimpArgs false
set_option linter.unusedVariables false
set_option linter.unusedSectionVars false
namespace Go.Proofs.Ytpnkapdemgieaaa
open Go Go.RowKit
open Go.ChangeShapes Go.WideShapes Go.ChangeAt Go.RowKit Go.Joins
/-- What a rod tells; where its lists lie. -/
structure Rd where
  a : List Nat
  b : List Nat
  c : List Nat
  d : List Nat
structure RL where
  p1 : Option Addr
  c1 : Nat
  p2 : Option Addr
  c2 : Nat
  p3 : Option Addr
  c3 : Nat
  p4 : Option Addr
  c4 : Nat
def Rd.fs (P : Rd) (w : World) (l : RL) : Prop := FS w (.slice l.p1 P.a.length l.c1) P.a ∧ FS w (.slice l.p2 P.b.length l.c2) P.b ∧ FS w (.slice l.p3 P.c.length l.c3) P.c ∧ FS w (.slice l.p4 P.d.length l.c4) P.d
def Rd.own (P : Rd) (B : Nat) (w : World) (l : RL) : Prop := OF B w (.slice l.p1 P.a.length l.c1) P.a ∧ OF B w (.slice l.p2 P.b.length l.c2) P.b ∧ OF B w (.slice l.p3 P.c.length l.c3) P.c ∧ OF B w (.slice l.p4 P.d.length l.c4) P.d
/-- A rod's cells in memory. -/
def RdAt (P : Rd) (l : RL) (w : World) (b o : Nat) : Prop := w.cell? ⟨b, o, none⟩ = some (.slice l.p1 P.a.length l.c1) ∧ w.cell? ⟨b, o + 1, none⟩ = some (.slice l.p2 P.b.length l.c2) ∧ w.cell? ⟨b, o + 2, none⟩ = some (.slice l.p3 P.c.length l.c3) ∧ w.cell? ⟨b, o + 3, none⟩ = some (.slice l.p4 P.d.length l.c4)
def Rd.wf (P : Rd) : Prop := (∀ j, P.a.getD j 0 < 4294967296) ∧ (∀ j, P.b.getD j 0 < 4294967296) ∧ (∀ j, P.c.getD j 0 < 4294967296) ∧ ∀ j, P.d.getD j 0 < 4294967296
section
variable {P : Rd} {B : Nat} {w w' : World} {l : RL}
theorem Rd.fs.later (h : P.fs w l) (hb : Below w.heap.size w w') : P.fs w' l := ⟨h.1.later hb, h.2.1.later hb, h.2.2.1.later hb, h.2.2.2.later hb⟩
theorem Rd.own.later (h : P.own B w l) (hb : Below w.heap.size w w') : P.own B w' l := ⟨h.1.later hb, h.2.1.later hb, h.2.2.1.later hb, h.2.2.2.later hb⟩
theorem Rd.own.base {B' : Nat} (h : P.own B w l) (hB : B' ≤ B) : P.own B' w l := ⟨h.1.base hB, h.2.1.base hB, h.2.2.1.base hB, h.2.2.2.base hB⟩
theorem Rd.own.fs (h : P.own B w l) : P.fs w l := ⟨h.1.fs, h.2.1.fs, h.2.2.1.fs, h.2.2.2.fs⟩
theorem Rd.own.setCell (h : P.own B w l) {a : Addr} (ha : a.block < B) (v : Value) : P.own B (w.setCell a v) l := ⟨h.1.setCell ha v, h.2.1.setCell ha v, h.2.2.1.setCell ha v, h.2.2.2.setCell ha v⟩
theorem Rd.own.alloc (h : P.own B w l) (o : Obj) : P.own B (w.alloc o) l := ⟨h.1.alloc o, h.2.1.alloc o, h.2.2.1.alloc o, h.2.2.2.alloc o⟩
theorem Rd.own.drewN (h : P.own B w l) (n : Nat) : P.own B (w.drewN n) l := ⟨h.1.drewN n, h.2.1.drewN n, h.2.2.1.drewN n, h.2.2.2.drewN n⟩
end
def rdV (P : Rd) (l : RL) : Value := .agg #[.slice l.p1 P.a.length l.c1, .slice l.p2 P.b.length l.c2, .slice l.p3 P.c.length l.c3, .slice l.p4 P.d.length l.c4]
theorem rdV_inj {P : Rd} {l m : RL} (h : rdV P l = rdV P m) : l = m := by
  obtain ⟨⟩ := l
  obtain ⟨⟩ := m
  simp [rdV] at h
  simp [h]
/-- In a plan: a call that hands back a rod of its own. -/
def Clm.rod (P : Rd) (B : Nat) : Clm := ⟨1, fun _ v => ∃ l, v = rdV P l, fun _ v w => ∀ l, v = rdV P l → P.own B w l, fun _ => ⟨_, ⟨none, 0, none, 0, none, 0, none, 0⟩, rfl⟩,
  fun _ v w w' h hb u e => (h u e).later hb, fun h => nomatch h⟩
end Go.Proofs.Ytpnkapdemgieaaa
set_option linter.unusedSimpArgs false
set_option linter.unusedVariables false
set_option linter.unusedSectionVars false
namespace Go.Proofs.Ytpnkapdemgieaaa
open Go Go.RowKit
open Go.ChangeShapes Go.WideShapes Go.ChangeAt Go.RowKit Go.Joins
def Rd.size (P : Rd) : Nat := P.a.length + P.b.length + P.c.length + P.d.length
def finL (xs : List Nat) : Bool := !xs.any fun x => !fin .f32 (cn .f32 x)
def posL (xs : List Nat) : Bool := !xs.any fun x => !fin .f32 (cn .f32 x) || fle .f32 (cn .f32 x) (cn .f32 0)
/-- Is a rod valid. -/
def Rd.sized (P : Rd) : Bool := decide (1 ≤ P.a.length) && (decide (P.a.length ≤ 48) && (decide (P.b.length = P.a.length) && (decide (P.c.length = P.a.length) && decide (P.d.length = P.a.length))))
def Rd.ok (P : Rd) : Bool := P.sized && (posL P.a && (posL P.b && (posL P.c && finL P.d)))
theorem Rd.ok_len {P : Rd} (h : P.ok = true) : (1 ≤ P.a.length ∧ P.a.length ≤ 48) ∧ P.b.length = P.a.length ∧ P.c.length = P.a.length ∧ P.d.length = P.a.length := by
  unfold Rd.ok Rd.sized at h
  simp only [Bool.and_eq_true, decide_eq_true_eq] at h
  exact ⟨⟨h.1.1, h.1.2.1⟩, h.1.2.2.1, h.1.2.2.2.1, h.1.2.2.2.2⟩
def Ap (p q : Option Addr) : Prop := ∀ a b, p = some a → q = some b → a.block ≠ b.block
theorem Ap.of {p q : Option Addr} {n c m d s : Nat} (h1 : ∀ k, (Value.slice p n c).ownBlock = some k → k < s) (h2 : ∀ k, (Value.slice q m d).ownBlock = some k → s ≤ k) : Ap p q := by
  rintro a b rfl rfl
  have := h1 a.block rfl
  have := h2 b.block rfl
  omega
theorem Ap.row {p q : Option Addr} {n c m d : Nat} (h : Ap p q) : (Value.slice p n c).ownBlock = none ∨ (Value.slice p n c).ownBlock ≠ (Value.slice q m d).ownBlock := by
  cases p with
  | none => exact .inl rfl
  | some a =>
    refine .inr fun e => ?_
    cases q with
    | none => cases e
    | some b => exact h a b rfl rfl (by simpa [Value.ownBlock] using e)
theorem Ap.symm {p q : Option Addr} (h : Ap p q) : Ap q p := fun a b h1 h2 e => h b a h2 h1 e.symm
/-- A rod of the call's own. -/
def RdX (B S : Nat) (w : World) (P : Rd) (l : RL) : Prop :=
  (P.own B w l ∧ (∀ k, (Value.slice l.p1 P.a.length l.c1).ownBlock = some k → k < S) ∧ (∀ k, (Value.slice l.p2 P.b.length l.c2).ownBlock = some k → k < S) ∧ (∀ k, (Value.slice l.p3 P.c.length l.c3).ownBlock = some k → k < S) ∧ ∀ k, (Value.slice l.p4 P.d.length l.c4).ownBlock = some k → k < S) ∧
    Ap l.p1 l.p2 ∧ Ap l.p1 l.p3 ∧ Ap l.p1 l.p4 ∧ Ap l.p2 l.p3 ∧ Ap l.p2 l.p4 ∧ Ap l.p3 l.p4
section
variable {B S : Nat} {w w' : World} {P : Rd} {l : RL}
theorem RdX.mk' (y : P.own B w l) (x12 : Ap l.p1 l.p2) (x13 : Ap l.p1 l.p3) (x14 : Ap l.p1 l.p4) (x23 : Ap l.p2 l.p3) (x24 : Ap l.p2 l.p4) (x34 : Ap l.p3 l.p4) : RdX B w.heap.size w P l :=
  ⟨⟨y, fun k hk => (OF.block y.1 k hk).2, fun k hk => (OF.block y.2.1 k hk).2, fun k hk => (OF.block y.2.2.1 k hk).2, fun k hk => (OF.block y.2.2.2 k hk).2⟩, x12, x13, x14, x23, x24, x34⟩
theorem RdX.own (h : RdX B S w P l) : P.own B w l := h.1.1
theorem RdX.fs (h : RdX B S w P l) : P.fs w l := h.1.1.fs
theorem RdX.later (h : RdX B S w P l) (hb : Below w.heap.size w w') : RdX B S w' P l := ⟨⟨h.1.1.later hb, h.1.2⟩, h.2⟩
theorem RdX.alloc (h : RdX B S w P l) (o : Obj) : RdX B S (w.alloc o) P l := ⟨⟨h.1.1.alloc o, h.1.2⟩, h.2⟩
theorem RdX.drewN (h : RdX B S w P l) (m : Nat) : RdX B S (w.drewN m) P l := ⟨⟨h.1.1.drewN m, h.1.2⟩, h.2⟩
theorem RdX.setCell (h : RdX B S w P l) {a : Addr} (ha : a.block < B ∨ S ≤ a.block) (v : Value) : RdX B S (w.setCell a v) P l :=
  ⟨⟨⟨(RX.setCell ⟨h.1.1.1, h.1.2.1⟩ ha v).1, (RX.setCell ⟨h.1.1.2.1, h.1.2.2.1⟩ ha v).1, (RX.setCell ⟨h.1.1.2.2.1, h.1.2.2.2.1⟩ ha v).1, (RX.setCell ⟨h.1.1.2.2.2, h.1.2.2.2.2⟩ ha v).1⟩, h.1.2⟩, h.2⟩
theorem RdX.turn {B' S' : Nat} (h : RdX B S w P l) (hg : Turn B' S' w w') (hd : S ≤ B' ∨ S' ≤ B) : RdX B S w' P l :=
  ⟨⟨⟨(RX.turn ⟨h.1.1.1, h.1.2.1⟩ hg hd).1, (RX.turn ⟨h.1.1.2.1, h.1.2.2.1⟩ hg hd).1, (RX.turn ⟨h.1.1.2.2.1, h.1.2.2.2.1⟩ hg hd).1, (RX.turn ⟨h.1.1.2.2.2, h.1.2.2.2.2⟩ hg hd).1⟩, h.1.2⟩, h.2⟩
theorem RdAt.grown {b o : Nat} {row : Option Nat} (h : RdAt P l w b o) (hg : w.grownBy w' row) (hne : some b ≠ row) : RdAt P l w' b o :=
  ⟨hg.cell h.1 hne, hg.cell h.2.1 hne, hg.cell h.2.2.1 hne, hg.cell h.2.2.2 hne⟩
end
end Go.Proofs.Ytpnkapdemgieaaa
set_option linter.unusedSimpArgs false
set_option linter.unusedVariables false
set_option linter.unusedSectionVars false
namespace Go.Proofs.Ytpnkapdemgieaaa
open Go Go.RowKit
open Go.ChangeShapes Go.WideShapes Go.ChangeAt Go.RowKit Go.Joins
set_option maxHeartbeats 4000000 in
set_option maxRecDepth 100000 in
theorem implValidRod_any (P : Rd) (l : RL) (w : World) (hs : P.fs w l) : Calls Try.prog 35 #[.agg #[.slice l.p1 P.a.length l.c1, .slice l.p2 P.b.length l.c2, .slice l.p3 P.c.length l.c3, .slice l.p4 P.d.length l.c4]] w (BV w (.bool P.ok)) := by
  have HS := Lib.hid hs
  clear hs
  by_cases g1 : (P.a.length : Int) < 1
  · have HE : Hid (P.ok = false) := by show _ = _; simp [Rd.ok, Rd.sized]; omega
    go_enter Try.func35, Try.ntmps35
    go_wp2_with (first | (with_reducible refine at_list ?_; refine wpList_wide_g rfl rfl Try.underlying28 Try.underlying39 rfl ?_; intro r n hr0; have hr := hr0 _ (by first | with_reducible assumption | exact rfl); clear hr0) | (with_reducible refine at_list ?_; refine wpList_wide rfl rfl rfl Try.underlying28 Try.underlying39 ?_; intro r n hr0; have hr := hr0 _ (by first | with_reducible assumption | exact rfl); clear hr0) | (go_at_call 45; refine ((arePositive_any P.a _ _ (HS.out.1.later (by (repeat (first | (with_reducible exact Below.refl _ _) | (with_reducible assumption) | (with_reducible refine below_then ?_ (by assumption)) | (with_reducible refine Below.trans ?_ (by assumption)) | (with_reducible refine below_drewN ?_ _) | (with_reducible apply Below.drew) | (with_reducible refine below_alloc ?_ _) | refine Below.setCell ?_ (by first | (simp; done) | (simp; omega)) _))))) ).mono ?_; rintro e w' ⟨rfl, n, rfl⟩) | (go_at_call 44; refine ((areFinite_any P.d _ _ (HS.out.2.2.2.later (by (repeat (first | (with_reducible exact Below.refl _ _) | (with_reducible assumption) | (with_reducible refine below_then ?_ (by assumption)) | (with_reducible refine Below.trans ?_ (by assumption)) | (with_reducible refine below_drewN ?_ _) | (with_reducible apply Below.drew) | (with_reducible refine below_alloc ?_ _) | refine Below.setCell ?_ (by first | (simp; done) | (simp; omega)) _))))) ).mono ?_; rintro e w' ⟨rfl, n, rfl⟩))
    all_goals
      go_ret
      exact ⟨by (first | (rw [HE.out]; rfl) | rw [HE.out]), by (repeat (first | (with_reducible exact Below.refl _ _) | (with_reducible assumption) | (with_reducible refine below_then ?_ (by assumption)) | (with_reducible refine Below.trans ?_ (by assumption)) | (with_reducible refine below_drewN ?_ _) | (with_reducible apply Below.drew) | (with_reducible refine below_alloc ?_ _) | refine Below.setCell ?_ (by first | (simp; done) | (simp; omega)) _))⟩
  by_cases g2 : 48 < (P.a.length : Int)
  · have HE : Hid (P.ok = false) := by show _ = _; simp [Rd.ok, Rd.sized]; omega
    go_enter Try.func35, Try.ntmps35
    go_wp2_with (first | (with_reducible refine at_list ?_; refine wpList_wide_g rfl rfl Try.underlying28 Try.underlying39 rfl ?_; intro r n hr0; have hr := hr0 _ (by first | with_reducible assumption | exact rfl); clear hr0) | (with_reducible refine at_list ?_; refine wpList_wide rfl rfl rfl Try.underlying28 Try.underlying39 ?_; intro r n hr0; have hr := hr0 _ (by first | with_reducible assumption | exact rfl); clear hr0) | (go_at_call 45; refine ((arePositive_any P.a _ _ (HS.out.1.later (by (repeat (first | (with_reducible exact Below.refl _ _) | (with_reducible assumption) | (with_reducible refine below_then ?_ (by assumption)) | (with_reducible refine Below.trans ?_ (by assumption)) | (with_reducible refine below_drewN ?_ _) | (with_reducible apply Below.drew) | (with_reducible refine below_alloc ?_ _) | refine Below.setCell ?_ (by first | (simp; done) | (simp; omega)) _))))) ).mono ?_; rintro e w' ⟨rfl, n, rfl⟩) | (go_at_call 44; refine ((areFinite_any P.d _ _ (HS.out.2.2.2.later (by (repeat (first | (with_reducible exact Below.refl _ _) | (with_reducible assumption) | (with_reducible refine below_then ?_ (by assumption)) | (with_reducible refine Below.trans ?_ (by assumption)) | (with_reducible refine below_drewN ?_ _) | (with_reducible apply Below.drew) | (with_reducible refine below_alloc ?_ _) | refine Below.setCell ?_ (by first | (simp; done) | (simp; omega)) _))))) ).mono ?_; rintro e w' ⟨rfl, n, rfl⟩))
    all_goals
      go_ret
      exact ⟨by (first | (rw [HE.out]; rfl) | rw [HE.out]), by (repeat (first | (with_reducible exact Below.refl _ _) | (with_reducible assumption) | (with_reducible refine below_then ?_ (by assumption)) | (with_reducible refine Below.trans ?_ (by assumption)) | (with_reducible refine below_drewN ?_ _) | (with_reducible apply Below.drew) | (with_reducible refine below_alloc ?_ _) | refine Below.setCell ?_ (by first | (simp; done) | (simp; omega)) _))⟩
  by_cases e2 : (P.b.length : Int) = P.a.length
  rotate_left
  · have HE : Hid (P.ok = false) := by show _ = _; simp [Rd.ok, Rd.sized]; omega
    go_enter Try.func35, Try.ntmps35
    go_wp2_with (first | (with_reducible refine at_list ?_; refine wpList_wide_g rfl rfl Try.underlying28 Try.underlying39 rfl ?_; intro r n hr0; have hr := hr0 _ (by first | with_reducible assumption | exact rfl); clear hr0) | (with_reducible refine at_list ?_; refine wpList_wide rfl rfl rfl Try.underlying28 Try.underlying39 ?_; intro r n hr0; have hr := hr0 _ (by first | with_reducible assumption | exact rfl); clear hr0) | (go_at_call 45; refine ((arePositive_any P.a _ _ (HS.out.1.later (by (repeat (first | (with_reducible exact Below.refl _ _) | (with_reducible assumption) | (with_reducible refine below_then ?_ (by assumption)) | (with_reducible refine Below.trans ?_ (by assumption)) | (with_reducible refine below_drewN ?_ _) | (with_reducible apply Below.drew) | (with_reducible refine below_alloc ?_ _) | refine Below.setCell ?_ (by first | (simp; done) | (simp; omega)) _))))) ).mono ?_; rintro e w' ⟨rfl, n, rfl⟩) | (go_at_call 44; refine ((areFinite_any P.d _ _ (HS.out.2.2.2.later (by (repeat (first | (with_reducible exact Below.refl _ _) | (with_reducible assumption) | (with_reducible refine below_then ?_ (by assumption)) | (with_reducible refine Below.trans ?_ (by assumption)) | (with_reducible refine below_drewN ?_ _) | (with_reducible apply Below.drew) | (with_reducible refine below_alloc ?_ _) | refine Below.setCell ?_ (by first | (simp; done) | (simp; omega)) _))))) ).mono ?_; rintro e w' ⟨rfl, n, rfl⟩))
    all_goals
      go_ret
      exact ⟨by (first | (rw [HE.out]; rfl) | rw [HE.out]), by (repeat (first | (with_reducible exact Below.refl _ _) | (with_reducible assumption) | (with_reducible refine below_then ?_ (by assumption)) | (with_reducible refine Below.trans ?_ (by assumption)) | (with_reducible refine below_drewN ?_ _) | (with_reducible apply Below.drew) | (with_reducible refine below_alloc ?_ _) | refine Below.setCell ?_ (by first | (simp; done) | (simp; omega)) _))⟩
  by_cases e3 : (P.c.length : Int) = P.a.length
  rotate_left
  · have HE : Hid (P.ok = false) := by show _ = _; simp [Rd.ok, Rd.sized]; omega
    go_enter Try.func35, Try.ntmps35
    go_wp2_with (first | (with_reducible refine at_list ?_; refine wpList_wide_g rfl rfl Try.underlying28 Try.underlying39 rfl ?_; intro r n hr0; have hr := hr0 _ (by first | with_reducible assumption | exact rfl); clear hr0) | (with_reducible refine at_list ?_; refine wpList_wide rfl rfl rfl Try.underlying28 Try.underlying39 ?_; intro r n hr0; have hr := hr0 _ (by first | with_reducible assumption | exact rfl); clear hr0) | (go_at_call 45; refine ((arePositive_any P.a _ _ (HS.out.1.later (by (repeat (first | (with_reducible exact Below.refl _ _) | (with_reducible assumption) | (with_reducible refine below_then ?_ (by assumption)) | (with_reducible refine Below.trans ?_ (by assumption)) | (with_reducible refine below_drewN ?_ _) | (with_reducible apply Below.drew) | (with_reducible refine below_alloc ?_ _) | refine Below.setCell ?_ (by first | (simp; done) | (simp; omega)) _))))) ).mono ?_; rintro e w' ⟨rfl, n, rfl⟩) | (go_at_call 44; refine ((areFinite_any P.d _ _ (HS.out.2.2.2.later (by (repeat (first | (with_reducible exact Below.refl _ _) | (with_reducible assumption) | (with_reducible refine below_then ?_ (by assumption)) | (with_reducible refine Below.trans ?_ (by assumption)) | (with_reducible refine below_drewN ?_ _) | (with_reducible apply Below.drew) | (with_reducible refine below_alloc ?_ _) | refine Below.setCell ?_ (by first | (simp; done) | (simp; omega)) _))))) ).mono ?_; rintro e w' ⟨rfl, n, rfl⟩))
    all_goals
      go_ret
      exact ⟨by (first | (rw [HE.out]; rfl) | rw [HE.out]), by (repeat (first | (with_reducible exact Below.refl _ _) | (with_reducible assumption) | (with_reducible refine below_then ?_ (by assumption)) | (with_reducible refine Below.trans ?_ (by assumption)) | (with_reducible refine below_drewN ?_ _) | (with_reducible apply Below.drew) | (with_reducible refine below_alloc ?_ _) | refine Below.setCell ?_ (by first | (simp; done) | (simp; omega)) _))⟩
  by_cases e4 : (P.d.length : Int) = P.a.length
  rotate_left
  · have HE : Hid (P.ok = false) := by show _ = _; simp [Rd.ok, Rd.sized]; omega
    go_enter Try.func35, Try.ntmps35
    go_wp2_with (first | (with_reducible refine at_list ?_; refine wpList_wide_g rfl rfl Try.underlying28 Try.underlying39 rfl ?_; intro r n hr0; have hr := hr0 _ (by first | with_reducible assumption | exact rfl); clear hr0) | (with_reducible refine at_list ?_; refine wpList_wide rfl rfl rfl Try.underlying28 Try.underlying39 ?_; intro r n hr0; have hr := hr0 _ (by first | with_reducible assumption | exact rfl); clear hr0) | (go_at_call 45; refine ((arePositive_any P.a _ _ (HS.out.1.later (by (repeat (first | (with_reducible exact Below.refl _ _) | (with_reducible assumption) | (with_reducible refine below_then ?_ (by assumption)) | (with_reducible refine Below.trans ?_ (by assumption)) | (with_reducible refine below_drewN ?_ _) | (with_reducible apply Below.drew) | (with_reducible refine below_alloc ?_ _) | refine Below.setCell ?_ (by first | (simp; done) | (simp; omega)) _))))) ).mono ?_; rintro e w' ⟨rfl, n, rfl⟩) | (go_at_call 44; refine ((areFinite_any P.d _ _ (HS.out.2.2.2.later (by (repeat (first | (with_reducible exact Below.refl _ _) | (with_reducible assumption) | (with_reducible refine below_then ?_ (by assumption)) | (with_reducible refine Below.trans ?_ (by assumption)) | (with_reducible refine below_drewN ?_ _) | (with_reducible apply Below.drew) | (with_reducible refine below_alloc ?_ _) | refine Below.setCell ?_ (by first | (simp; done) | (simp; omega)) _))))) ).mono ?_; rintro e w' ⟨rfl, n, rfl⟩))
    all_goals
      go_ret
      exact ⟨by (first | (rw [HE.out]; rfl) | rw [HE.out]), by (repeat (first | (with_reducible exact Below.refl _ _) | (with_reducible assumption) | (with_reducible refine below_then ?_ (by assumption)) | (with_reducible refine Below.trans ?_ (by assumption)) | (with_reducible refine below_drewN ?_ _) | (with_reducible apply Below.drew) | (with_reducible refine below_alloc ?_ _) | refine Below.setCell ?_ (by first | (simp; done) | (simp; omega)) _))⟩
  have HA : Hid (∀ w', Below w.heap.size w w' → Calls Try.prog 45 #[.slice l.p1 P.a.length l.c1] w' (RB w' (posL P.a))) := fun w' h => arePositive_any P.a _ w' (HS.out.1.later h)
  have HB : Hid (∀ w', Below w.heap.size w w' → Calls Try.prog 45 #[.slice l.p2 P.b.length l.c2] w' (RB w' (posL P.b))) := fun w' h => arePositive_any P.b _ w' (HS.out.2.1.later h)
  have HC : Hid (∀ w', Below w.heap.size w w' → Calls Try.prog 45 #[.slice l.p3 P.c.length l.c3] w' (RB w' (posL P.c))) := fun w' h => arePositive_any P.c _ w' (HS.out.2.2.1.later h)
  have HD : Hid (∀ w', Below w.heap.size w w' → Calls Try.prog 44 #[.slice l.p4 P.d.length l.c4] w' (RB w' (finL P.d))) := fun w' h => areFinite_any P.d _ w' (HS.out.2.2.2.later h)
  have HE : Hid (P.ok = (posL P.a && (posL P.b && (posL P.c && finL P.d)))) := by
    show _ = _
    have q1 : decide (1 ≤ P.a.length) = true := by simp; omega
    have q2 : decide (P.a.length ≤ 48) = true := by simp; omega
    have q3 : decide (P.b.length = P.a.length) = true := by simp; omega
    have q4 : decide (P.c.length = P.a.length) = true := by simp; omega
    have q5 : decide (P.d.length = P.a.length) = true := by simp; omega
    simp only [Rd.ok, Rd.sized, q1, q2, q3, q4, q5, Bool.true_and]
  rcases f1 : posL P.a
  · rw [f1] at HA
    go_enter Try.func35, Try.ntmps35
    go_wp2_with (first | (with_reducible refine at_list ?_; refine wpList_wide_g rfl rfl Try.underlying28 Try.underlying39 rfl ?_; intro r n hr0; have hr := hr0 _ (by first | with_reducible assumption | exact rfl); clear hr0) | (with_reducible refine at_list ?_; refine wpList_wide rfl rfl rfl Try.underlying28 Try.underlying39 ?_; intro r n hr0; have hr := hr0 _ (by first | with_reducible assumption | exact rfl); clear hr0) | (go_at_call_of 45 (Value.slice l.p1 P.a.length l.c1); refine ((HA.out _ (by (repeat (first | (with_reducible exact Below.refl _ _) | (with_reducible assumption) | (with_reducible refine below_then ?_ (by assumption)) | (with_reducible refine Below.trans ?_ (by assumption)) | (with_reducible refine below_drewN ?_ _) | (with_reducible apply Below.drew) | (with_reducible refine below_alloc ?_ _) | refine Below.setCell ?_ (by first | (simp; done) | (simp; omega)) _)))) ).mono ?_; rintro e w' ⟨rfl, n, rfl⟩) | (go_at_call_of 45 (Value.slice l.p2 P.b.length l.c2); refine ((HB.out _ (by (repeat (first | (with_reducible exact Below.refl _ _) | (with_reducible assumption) | (with_reducible refine below_then ?_ (by assumption)) | (with_reducible refine Below.trans ?_ (by assumption)) | (with_reducible refine below_drewN ?_ _) | (with_reducible apply Below.drew) | (with_reducible refine below_alloc ?_ _) | refine Below.setCell ?_ (by first | (simp; done) | (simp; omega)) _)))) ).mono ?_; rintro e w' ⟨rfl, n, rfl⟩) | (go_at_call_of 45 (Value.slice l.p3 P.c.length l.c3); refine ((HC.out _ (by (repeat (first | (with_reducible exact Below.refl _ _) | (with_reducible assumption) | (with_reducible refine below_then ?_ (by assumption)) | (with_reducible refine Below.trans ?_ (by assumption)) | (with_reducible refine below_drewN ?_ _) | (with_reducible apply Below.drew) | (with_reducible refine below_alloc ?_ _) | refine Below.setCell ?_ (by first | (simp; done) | (simp; omega)) _)))) ).mono ?_; rintro e w' ⟨rfl, n, rfl⟩) | (go_at_call 44; refine ((HD.out _ (by (repeat (first | (with_reducible exact Below.refl _ _) | (with_reducible assumption) | (with_reducible refine below_then ?_ (by assumption)) | (with_reducible refine Below.trans ?_ (by assumption)) | (with_reducible refine below_drewN ?_ _) | (with_reducible apply Below.drew) | (with_reducible refine below_alloc ?_ _) | refine Below.setCell ?_ (by first | (simp; done) | (simp; omega)) _)))) ).mono ?_; rintro e w' ⟨rfl, n, rfl⟩))
    all_goals
      go_ret
      exact ⟨by rw [HE.out]; simp [*], by (repeat (first | (with_reducible exact Below.refl _ _) | (with_reducible assumption) | (with_reducible refine below_then ?_ (by assumption)) | (with_reducible refine Below.trans ?_ (by assumption)) | (with_reducible refine below_drewN ?_ _) | (with_reducible apply Below.drew) | (with_reducible refine below_alloc ?_ _) | refine Below.setCell ?_ (by first | (simp; done) | (simp; omega)) _))⟩
  rcases f2 : posL P.b
  · rw [f1] at HA
    rw [f2] at HB
    go_enter Try.func35, Try.ntmps35
    go_wp2_with (first | (with_reducible refine at_list ?_; refine wpList_wide_g rfl rfl Try.underlying28 Try.underlying39 rfl ?_; intro r n hr0; have hr := hr0 _ (by first | with_reducible assumption | exact rfl); clear hr0) | (with_reducible refine at_list ?_; refine wpList_wide rfl rfl rfl Try.underlying28 Try.underlying39 ?_; intro r n hr0; have hr := hr0 _ (by first | with_reducible assumption | exact rfl); clear hr0) | (go_at_call_of 45 (Value.slice l.p1 P.a.length l.c1); refine ((HA.out _ (by (repeat (first | (with_reducible exact Below.refl _ _) | (with_reducible assumption) | (with_reducible refine below_then ?_ (by assumption)) | (with_reducible refine Below.trans ?_ (by assumption)) | (with_reducible refine below_drewN ?_ _) | (with_reducible apply Below.drew) | (with_reducible refine below_alloc ?_ _) | refine Below.setCell ?_ (by first | (simp; done) | (simp; omega)) _)))) ).mono ?_; rintro e w' ⟨rfl, n, rfl⟩) | (go_at_call_of 45 (Value.slice l.p2 P.b.length l.c2); refine ((HB.out _ (by (repeat (first | (with_reducible exact Below.refl _ _) | (with_reducible assumption) | (with_reducible refine below_then ?_ (by assumption)) | (with_reducible refine Below.trans ?_ (by assumption)) | (with_reducible refine below_drewN ?_ _) | (with_reducible apply Below.drew) | (with_reducible refine below_alloc ?_ _) | refine Below.setCell ?_ (by first | (simp; done) | (simp; omega)) _)))) ).mono ?_; rintro e w' ⟨rfl, n, rfl⟩) | (go_at_call_of 45 (Value.slice l.p3 P.c.length l.c3); refine ((HC.out _ (by (repeat (first | (with_reducible exact Below.refl _ _) | (with_reducible assumption) | (with_reducible refine below_then ?_ (by assumption)) | (with_reducible refine Below.trans ?_ (by assumption)) | (with_reducible refine below_drewN ?_ _) | (with_reducible apply Below.drew) | (with_reducible refine below_alloc ?_ _) | refine Below.setCell ?_ (by first | (simp; done) | (simp; omega)) _)))) ).mono ?_; rintro e w' ⟨rfl, n, rfl⟩) | (go_at_call 44; refine ((HD.out _ (by (repeat (first | (with_reducible exact Below.refl _ _) | (with_reducible assumption) | (with_reducible refine below_then ?_ (by assumption)) | (with_reducible refine Below.trans ?_ (by assumption)) | (with_reducible refine below_drewN ?_ _) | (with_reducible apply Below.drew) | (with_reducible refine below_alloc ?_ _) | refine Below.setCell ?_ (by first | (simp; done) | (simp; omega)) _)))) ).mono ?_; rintro e w' ⟨rfl, n, rfl⟩))
    all_goals
      go_ret
      exact ⟨by rw [HE.out]; simp [*], by (repeat (first | (with_reducible exact Below.refl _ _) | (with_reducible assumption) | (with_reducible refine below_then ?_ (by assumption)) | (with_reducible refine Below.trans ?_ (by assumption)) | (with_reducible refine below_drewN ?_ _) | (with_reducible apply Below.drew) | (with_reducible refine below_alloc ?_ _) | refine Below.setCell ?_ (by first | (simp; done) | (simp; omega)) _))⟩
  rcases f3 : posL P.c
  all_goals
    rw [f1] at HA
    rw [f2] at HB
    rw [f3] at HC
    go_enter Try.func35, Try.ntmps35
    go_wp2_with (first | (with_reducible refine at_list ?_; refine wpList_wide_g rfl rfl Try.underlying28 Try.underlying39 rfl ?_; intro r n hr0; have hr := hr0 _ (by first | with_reducible assumption | exact rfl); clear hr0) | (with_reducible refine at_list ?_; refine wpList_wide rfl rfl rfl Try.underlying28 Try.underlying39 ?_; intro r n hr0; have hr := hr0 _ (by first | with_reducible assumption | exact rfl); clear hr0) | (go_at_call_of 45 (Value.slice l.p1 P.a.length l.c1); refine ((HA.out _ (by (repeat (first | (with_reducible exact Below.refl _ _) | (with_reducible assumption) | (with_reducible refine below_then ?_ (by assumption)) | (with_reducible refine Below.trans ?_ (by assumption)) | (with_reducible refine below_drewN ?_ _) | (with_reducible apply Below.drew) | (with_reducible refine below_alloc ?_ _) | refine Below.setCell ?_ (by first | (simp; done) | (simp; omega)) _)))) ).mono ?_; rintro e w' ⟨rfl, n, rfl⟩) | (go_at_call_of 45 (Value.slice l.p2 P.b.length l.c2); refine ((HB.out _ (by (repeat (first | (with_reducible exact Below.refl _ _) | (with_reducible assumption) | (with_reducible refine below_then ?_ (by assumption)) | (with_reducible refine Below.trans ?_ (by assumption)) | (with_reducible refine below_drewN ?_ _) | (with_reducible apply Below.drew) | (with_reducible refine below_alloc ?_ _) | refine Below.setCell ?_ (by first | (simp; done) | (simp; omega)) _)))) ).mono ?_; rintro e w' ⟨rfl, n, rfl⟩) | (go_at_call_of 45 (Value.slice l.p3 P.c.length l.c3); refine ((HC.out _ (by (repeat (first | (with_reducible exact Below.refl _ _) | (with_reducible assumption) | (with_reducible refine below_then ?_ (by assumption)) | (with_reducible refine Below.trans ?_ (by assumption)) | (with_reducible refine below_drewN ?_ _) | (with_reducible apply Below.drew) | (with_reducible refine below_alloc ?_ _) | refine Below.setCell ?_ (by first | (simp; done) | (simp; omega)) _)))) ).mono ?_; rintro e w' ⟨rfl, n, rfl⟩) | (go_at_call 44; refine ((HD.out _ (by (repeat (first | (with_reducible exact Below.refl _ _) | (with_reducible assumption) | (with_reducible refine below_then ?_ (by assumption)) | (with_reducible refine Below.trans ?_ (by assumption)) | (with_reducible refine below_drewN ?_ _) | (with_reducible apply Below.drew) | (with_reducible refine below_alloc ?_ _) | refine Below.setCell ?_ (by first | (simp; done) | (simp; omega)) _)))) ).mono ?_; rintro e w' ⟨rfl, n, rfl⟩))
    all_goals
      go_ret
      exact ⟨by rw [HE.out]; simp [*], by (repeat (first | (with_reducible exact Below.refl _ _) | (with_reducible assumption) | (with_reducible refine below_then ?_ (by assumption)) | (with_reducible refine Below.trans ?_ (by assumption)) | (with_reducible refine below_drewN ?_ _) | (with_reducible apply Below.drew) | (with_reducible refine below_alloc ?_ _) | refine Below.setCell ?_ (by first | (simp; done) | (simp; omega)) _))⟩
end Go.Proofs.Ytpnkapdemgieaaa
set_option linter.unusedSimpArgs false
set_option linter.unusedVariables false
set_option linter.unusedSectionVars false
namespace Go.Proofs.Ytpnkapdemgieaaa
open Go Go.RowKit
open Go.ChangeShapes Go.WideShapes Go.ChangeAt Go.RowKit Go.Joins
end Go.Proofs.Ytpnkapdemgieaaa
set_option linter.unusedSimpArgs false
set_option linter.unusedVariables false
set_option linter.unusedSectionVars false
namespace Go.Proofs.Ytpnkapdemgieaaa
open Go Go.RowKit
end Go.Proofs.Ytpnkapdemgieaaa
set_option linter.unusedSimpArgs false
set_option linter.unusedVariables false
set_option linter.unusedSectionVars false
namespace Go.Proofs.Ytpnkapdemgieaaa
open Go Go.RowKit
open Go.ChangeShapes Go.WideShapes Go.ChangeAt Go.RowKit Go.Joins
theorem any_cn (ys : List Nat) {L : List Nat} (h : ys.map (cn .f32) = L) : (ys.any fun x => !fin .f32 (cn .f32 x)) = L.any fun x => !fin .f32 x := by
  rw [← h, List.any_map]; rfl
/-- A slice of numbers that is not empty, seen. -/
theorem FS.ptr {w : World} {v : Value} {xs : List Nat} (h : FS w v xs) (hn : 1 ≤ xs.length) : ∃ b o c, v = .slice (some ⟨b, o, none⟩) xs.length c ∧ (c ≤ 9223372036854775807 ∧ xs.length ≤ c) ∧ Hid (∀ i, i < xs.length → w.cell? ⟨b, o + i, none⟩ = some (.float .f32 (xs.getD i 0))) := by
  obtain ⟨q, c, rfl, h1, h2, h3⟩ := FS_view h
  obtain ⟨b, o, rfl, _⟩ := h3 0 (by omega)
  refine ⟨b, o, c, rfl, ⟨h1, h2⟩, fun i hi => ?_⟩
  obtain ⟨b', o', e, hc⟩ := h3 i hi
  cases e; exact hc
/-- A rod whose lists are not empty, seen. -/
theorem Rd.open {P : Rd} {w : World} {l : RL} (h : P.fs w l) (hk : P.ok = true) : ∃ b1 o1 c1 b2 o2 c2 b3 o3 c3 b4 o4 c4, l = ⟨some ⟨b1, o1, none⟩, c1, some ⟨b2, o2, none⟩, c2, some ⟨b3, o3, none⟩, c3, some ⟨b4, o4, none⟩, c4⟩ ∧ Hid (∀ i, i < P.a.length → w.cell? ⟨b1, o1 + i, none⟩ = some (.float .f32 (P.a.getD i 0))) ∧ Hid (∀ i, i < P.a.length → w.cell? ⟨b2, o2 + i, none⟩ = some (.float .f32 (P.b.getD i 0))) ∧ Hid (∀ i, i < P.a.length → w.cell? ⟨b3, o3 + i, none⟩ = some (.float .f32 (P.c.getD i 0))) ∧ Hid (∀ i, i < P.a.length → w.cell? ⟨b4, o4 + i, none⟩ = some (.float .f32 (P.d.getD i 0))) := by
  obtain ⟨⟨h1, h2⟩, e2, e3, e4⟩ := Rd.ok_len hk
  obtain ⟨p1, c1, p2, c2, p3, c3, p4, c4⟩ := l
  obtain ⟨f1, f2, f3, f4⟩ := h
  obtain ⟨b1, o1, d1, g1, _, k1⟩ := f1.ptr h1
  obtain ⟨b2, o2, d2, g2, _, k2⟩ := f2.ptr (by omega)
  obtain ⟨b3, o3, d3, g3, _, k3⟩ := f3.ptr (by omega)
  obtain ⟨b4, o4, d4, g4, _, k4⟩ := f4.ptr (by omega)
  cases g1; cases g2; cases g3; cases g4
  exact ⟨b1, o1, _, b2, o2, _, b3, o3, _, b4, o4, _, rfl, k1, fun i hi => k2.out i (by omega), fun i hi => k3.out i (by omega), fun i hi => k4.out i (by omega)⟩
theorem rd_later {P : Rd} {l : RL} {w w' : World} {b o B : Nat} (h : RdAt P l w b o) (hb : Below B w w') (hB : b < B) : RdAt P l w' b o :=
  ⟨(hb.cell hB).trans h.1, (hb.cell hB).trans h.2.1, (hb.cell hB).trans h.2.2.1, (hb.cell hB).trans h.2.2.2⟩
end Go.Proofs.Ytpnkapdemgieaaa
set_option linter.unusedSimpArgs false
set_option linter.unusedVariables false
set_option linter.unusedSectionVars false
namespace Go.Proofs.Ytpnkapdemgieaaa
open Go Go.RowKit
open Go.ChangeShapes Go.WideShapes Go.ChangeAt Go.RowKit Go.Joins
theorem OF.one {B n r : Nat} (w : World) (t : TypeId) (hn : n = w.heap.size) (hB : B ≤ w.heap.size) (ht : t = 28) : OF B (w.alloc (.cells #[.float .f32 r] t)) (.slice (some ⟨n, 0, none⟩) 1 1) [r] := by
  subst ht
  subst hn
  exact World.ownsRow_lit w #[.float .f32 r] 1 hB (by decide) (by simp)
theorem wpList_appL {B : Nat} {xs zs : List Nat} {v : Value} {b o0 c0 : Nat} {w : World} {ops : Array Oper} {rest : List Oper} {o : Oper} {a : Act} {Q : Exit → Act → World → Prop} (hg : o.guard = .none) {s x : Operand}
    (ho : o.op = .call { callee := .builtin .append, args := #[s, x], argTypes := #[24, 24] }) (hs : a.eval s = v) (hx : a.eval x = .slice (some ⟨b, o0, .none⟩) zs.length c0) (hO : OF B w v xs) (hc : ∀ i, i < zs.length → w.cell? ⟨b, o0 + i, .none⟩ = some (.float .f32 (zs.getD i 0))) (hn : xs.length + zs.length ≤ 1048576) (hB : B ≤ w.heap.size)
    (h : ∀ q c w', OF B w' (.slice q (xs.length + zs.length) c) (xs ++ zs) → Below B w w' → wpList Try.prog ops Q rest (a.put o.dst (.slice q (xs.length + zs.length) c)) w') : wpList Try.prog ops Q (o :: rest) a w := by
  obtain ⟨i0, hi, hz0, hz1, hz2⟩ := info_parts Try.infoF32
  refine wpList_append_own w hg s x 24 ho B 28 i0 (.float .f32 0) 1 4 Try.underlying24 hi hz0 hz1 hz2 rfl (by decide) v xs.length (xs.map (Value.float .f32)) hs hO ⟨b, o0, .none⟩ zs.length c0 (zs.map (Value.float .f32)) hx (by simp) ?_ ?_ (by unfold maxLen; omega) (by omega) hB ?_
  · intro j u hj
    rw [List.getElem?_map] at hj
    have hl : j < zs.length := by
      rcases Nat.lt_or_ge j zs.length with h | h
      · exact h
      · rw [List.getElem?_eq_none h] at hj; cases hj
    rw [List.getElem?_eq_getElem hl] at hj
    simp only [Option.map_some, Option.some.injEq] at hj
    subst hj
    have := hc j hl
    rw [List.getD_eq_getElem?_getD, List.getElem?_eq_getElem hl] at this
    rw [show Addr.add ⟨b, o0, none⟩ j = ⟨b, o0 + j, none⟩ by unfold Addr.add; split; (rename_i h; subst h; rfl); rfl]
    exact this
  · intro u hu
    rw [List.mem_map] at hu
    obtain ⟨x, _, rfl⟩ := hu
    rfl
  · intro v' w' hown hgrow _
    have hO' : OF B w' v' (xs ++ zs) := by
      unfold OF
      simpa using hown
    obtain ⟨q, c, rfl⟩ := hO'.shape
    have e : (xs ++ zs).length = xs.length + zs.length := by simp
    rw [e] at hO' ⊢
    exact h q c w' hO' ((Below.refl _ _).grown hgrow hB fun k hk => (OF.block hO k hk).1)
set_option maxHeartbeats 2000000 in
set_option maxRecDepth 100000 in
theorem cloneF_any (xs : List Nat) (v : Value) (w : World) (hs : FS w v xs) (hn : 1 ≤ xs.length ∧ xs.length ≤ 1048576) : Calls Try.prog 43 #[v] w (fun e w' => ∃ u, e = .returned u ∧ Below w.heap.size w w' ∧ OF w.heap.size w' u xs) := by
  obtain ⟨b0, o0, c0, rfl, ⟨hc1, hc2⟩, HV⟩ := hs.ptr hn.1
  clear hs
  have hnil : (binOp .eql 24 (.slice (some ⟨b0, o0, none⟩) xs.length c0) (.slice none 0 0)).run Try.prog w = .ok (.bool false) w := by kernel_rfl
  go_enter Try.func43, Try.ntmps43
  go_wp2_with (first | (with_reducible refine at_list ?_; refine wpList_fop rfl rfl rfl rfl rfl ?_; intro r n hr0; have hr := hr0 _ _ (by first | with_reducible assumption | exact rfl) (by first | with_reducible assumption | exact rfl); clear hr0) | (with_reducible refine at_list ?_; refine wpList_neg rfl rfl rfl ?_; intro r hr0; have hr := hr0 _ (by first | with_reducible assumption | exact rfl); clear hr0) | (with_reducible refine at_list ?_; refine wpList_fop_g rfl rfl rfl rfl rfl ?_; intro r n hr0; have hr := hr0 _ _ (by first | with_reducible assumption | exact rfl) (by first | with_reducible assumption | exact rfl); clear hr0) | (with_reducible refine at_list ?_; refine wpList_wide_g rfl rfl Try.underlying28 Try.underlying39 rfl ?_; intro r n hr0; have hr := hr0 _ (by first | with_reducible assumption | exact rfl); clear hr0) | (with_reducible refine at_list ?_; refine wpList_wide rfl rfl rfl Try.underlying28 Try.underlying39 ?_; intro r n hr0; have hr := hr0 _ (by first | with_reducible assumption | exact rfl); clear hr0) | (at_builtin; refine stop_here ?_))
  unfold Stop
  apply wpList_appL (B := w.heap.size) (xs := []) (zs := xs) (v := .slice (some ⟨w.heap.size, 0, none⟩) 0 0)
  case hg => rfl
  case ho => rfl
  case hs => rfl
  case hx => rfl
  case hO => exact OF.empty _ _ rfl (Nat.le_refl _) rfl
  case hc => intro i hi; exact cell_later ((Below.refl _ w).alloc (Nat.le_refl _) _) (HV.out i hi)
  case hn => simp; omega
  case hB => simp
  intro q2 c2 w2 hO2 hB2
  have HB3 := Lib.hid (Below.trans (B := w.heap.size) (a := w) (by (repeat (first | (with_reducible exact Below.refl _ _) | (with_reducible assumption) | (with_reducible refine below_then ?_ (by assumption)) | (with_reducible refine Below.trans ?_ (by assumption)) | (with_reducible refine below_drewN ?_ _) | (with_reducible apply Below.drew) | (with_reducible refine below_alloc ?_ _) | refine Below.setCell ?_ (by first | (simp; done) | (simp; omega)) _))) (hB2.mono (by omega)))
  have HO2 := Lib.hid hO2
  clear hB2 hO2 HV
  go_wp2
  go_ret
  refine ⟨_, rfl, HB3.out, ?_⟩
  have := HO2.out
  simpa using this
end Go.Proofs.Ytpnkapdemgieaaa
set_option linter.unusedSimpArgs false
set_option linter.unusedVariables false
set_option linter.unusedSectionVars false
namespace Go.Proofs.Ytpnkapdemgieaaa
open Go Go.RowKit
open Go.ChangeShapes Go.WideShapes Go.ChangeAt Go.RowKit Go.Joins
def Rd.sum (P : Rd) (k : Int) : Int := k + P.a.length + P.b.length + P.c.length + P.d.length
theorem FX.fs {B S : Nat} {w : World} {u : Value} {xs : List Nat} (h : FX B S w u xs) : FS w u xs := OF.fs h.1
end Go.Proofs.Ytpnkapdemgieaaa
set_option linter.unusedSimpArgs false
set_option linter.unusedVariables false
set_option linter.unusedSectionVars false
namespace Go.Proofs.Ytpnkapdemgieaaa
open Go Go.RowKit
open Go.ChangeShapes Go.WideShapes Go.ChangeAt Go.RowKit Go.Joins
def nilRd : Rd := ⟨[], [], [], []⟩
def nilRL : RL := ⟨none, 0, none, 0, none, 0, none, 0⟩
theorem nilRd_rx (B S : Nat) (w : World) : RdX B S w nilRd nilRL :=
  ⟨⟨⟨OF.nil0 _ _, OF.nil0 _ _, OF.nil0 _ _, OF.nil0 _ _⟩, fun k hk => (by cases hk), fun k hk => (by cases hk), fun k hk => (by cases hk), fun k hk => (by cases hk)⟩, fun a b h => (by cases h), fun a b h => (by cases h), fun a b h => (by cases h), fun a b h => (by cases h), fun a b h => (by cases h), fun a b h => (by cases h)⟩
/-- Four own lists that lie apart. -/
def RdA (B : Nat) (w : World) (P : Rd) (l : RL) : Prop := P.own B w l ∧ Ap l.p1 l.p2 ∧ Ap l.p1 l.p3 ∧ Ap l.p1 l.p4 ∧ Ap l.p2 l.p3 ∧ Ap l.p2 l.p4 ∧ Ap l.p3 l.p4
theorem RdA.later {B : Nat} {w w' : World} {P : Rd} {l : RL} (h : RdA B w P l) (hb : Below w.heap.size w w') : RdA B w' P l := ⟨h.1.later hb, h.2⟩
theorem RdA.rx {B B' : Nat} {w : World} {P : Rd} {l : RL} (h : RdA B w P l) (hB : B' ≤ B) : RdX B' w.heap.size w P l := RdX.mk' (h.1.base hB) h.2.1 h.2.2.1 h.2.2.2.1 h.2.2.2.2.1 h.2.2.2.2.2.1 h.2.2.2.2.2.2
theorem RdX.base {B S B' S' : Nat} {w : World} {P : Rd} {l : RL} (h : RdX B S w P l) (hB : B' ≤ B) (hS : S ≤ S') : RdX B' S' w P l :=
  ⟨⟨h.1.1.base hB, fun k hk => Nat.lt_of_lt_of_le (h.1.2.1 k hk) hS, fun k hk => Nat.lt_of_lt_of_le (h.1.2.2.1 k hk) hS, fun k hk => Nat.lt_of_lt_of_le (h.1.2.2.2.1 k hk) hS, fun k hk => Nat.lt_of_lt_of_le (h.1.2.2.2.2 k hk) hS⟩, h.2⟩
/-- A value's block lies behind those of the values that it waits for. -/
def ordK (v : Value) (x : List Value) : Prop := ∀ z ∈ x, ∀ k k', z.ownBlock = some k → v.ownBlock = some k' → k < k'
def Clm.ord (B : Nat) (xs : List Nat) : Clm := ⟨1, fun _ v => ∃ q c, v = .slice q xs.length c, fun x v w => OF B w v xs ∧ ordK v x, fun _ => ⟨_, none, 0, rfl⟩,
  fun x v w w' h hb => ⟨OF.later h.1 hb, h.2⟩, fun h => nomatch h⟩
section
variable {P : Program} {ops : Array Oper} {Q : Exit → Act → World → Prop} {W : World} {l : List Oper} {cs : List Clm} {i : Nat} {ks : List (Nat × (World → Prop))} {a : Act} {o : Oper}
theorem wpC_callOrd (xs : List Nat) (n0 : Nat) (us ts : List Nat) (hts : depT ops o = ts) (hus : o.op.operands.toList = Operand.func n0 :: us.map Operand.tmp) (hf : (a.eval (.func n0)).ownBlock = none) (hw : Region.wanted o (yielded ops a.tmps) = true) {f : FuncId} {args : Array Value} (h1 : ∀ w, (execOp a.eval o).run P w = .ok (.enter f args) w)
    (hz : ∀ w, Below W.heap.size W w → depK o ks w → ∀ t ∈ us ++ ts, ∀ k, (a.eval (.tmp t)).ownBlock = some k → k < w.heap.size)
    (hc : ∀ w, Below W.heap.size W w → depK o ks w → Calls P f args w (fun e w' => ∃ u, e = .returned u ∧ Below w.heap.size w w' ∧ OF w.heap.size w' u xs))
    (h : ∀ q c, wpC P ops Q W l cs (i + 1) ((i, fun w => OF W.heap.size w (.slice q xs.length c) xs ∧ ordK (.slice q xs.length c) (a.eval (.func n0) :: (us ++ ts).map fun t => a.eval (.tmp t))) :: ks) (a.put o.dst (.slice q xs.length c))) : wpC P ops Q W (o :: l) (Clm.ord W.heap.size xs :: cs) i ks a := by
  have he : oargs ops o a = a.eval (.func n0) :: (us ++ ts).map fun t => a.eval (.tmp t) := by
    unfold oargs
    rw [hts, hus, List.map_append, List.map_cons, List.map_map]; rfl
  refine wpC_call (Clm.ord W.heap.size xs) rfl hw h1 (fun w hb hk => (hc w hb hk).mono ?_) ?_
  · rintro e w' ⟨u, rfl, hbl, hO⟩
    obtain ⟨q, c, rfl⟩ := hO.shape
    exact ⟨_, rfl, hbl, ⟨q, c, rfl⟩, hO.base hb.size, fun z hm k k' h1 h2 => by
      rw [he] at hm
      rcases List.mem_cons.1 hm with rfl | hm
      · rw [hf] at h1; cases h1
      obtain ⟨t, ht, rfl⟩ := List.mem_map.1 hm
      exact Nat.lt_of_lt_of_le (hz w hb hk t ht k h1) (OF.block hO k' h2).1⟩
  · rintro v ⟨q, c, rfl⟩
    show wpC P ops Q W l cs (i + 1) ((i, fun w => OF W.heap.size w (.slice q xs.length c) xs ∧ ordK (.slice q xs.length c) (oargs ops o a)) :: ks) _
    rw [he]; exact h q c
def Clm.bldR (R : Rd) (B : Nat) : Clm := ⟨1, fun _ v => ∃ l, v = rdV R l, fun _ v w => ∀ l, v = rdV R l → RdA B w R l, fun _ => ⟨_, nilRL, rfl⟩,
  fun _ v w w' h hb u e => (h u e).later hb, fun h => nomatch h⟩
theorem wpC_bldR {R : Rd} {m : RL} (hw : Region.wanted o (yielded ops a.tmps) = true) (h1 : ∀ w, (execOp a.eval o).run P w = .ok (.value (.agg #[.slice m.p1 R.a.length m.c1, .slice m.p2 R.b.length m.c2, .slice m.p3 R.c.length m.c3, .slice m.p4 R.d.length m.c4])) w)
    (hk : ∀ w, Below W.heap.size W w → depK o ks w → RdA W.heap.size w R m)
    (h : ∀ lb, wpC P ops Q W l cs (i + 1) ((i, fun w => ∀ u, rdV R lb = rdV R u → RdA W.heap.size w R u) :: ks) (a.put o.dst (.agg #[.slice lb.p1 R.a.length lb.c1, .slice lb.p2 R.b.length lb.c2, .slice lb.p3 R.c.length lb.c3, .slice lb.p4 R.d.length lb.c4]))) : wpC P ops Q W (o :: l) (Clm.bldR R W.heap.size :: cs) i ks a := by
  refine wpC_make (Clm.bldR R W.heap.size) rfl hw (fun w hb hd => ⟨_, _, h1 w, Below.refl _ _, ⟨m, rfl⟩, fun u e => (rdV_inj (P := R) (l := m) (m := u) e) ▸ hk w hb hd⟩) ?_
  rintro v ⟨lb, rfl⟩
  exact h lb
def Clm.chk : Clm := ⟨1, fun x v => v = .tuple #[x.getLastD undef, .bool true], fun _ _ _ => True, fun _ => ⟨_, rfl⟩, fun _ _ _ _ _ _ => trivial, fun h => nomatch h⟩
theorem wpC_chk {v0 : Value} (hx : (o.op.operands.toList.map a.eval).getLastD undef = v0) (hw : Region.wanted o (yielded ops a.tmps) = true) {f : FuncId} {args : Array Value} (h1 : ∀ w, (execOp a.eval o).run P w = .ok (.enter f args) w)
    (hc : ∀ w, Below W.heap.size W w → depK o ks w → Calls P f args w (BV w (.tuple #[v0, .bool true])))
    (h : wpC P ops Q W l cs (i + 1) ((i, fun _ => True) :: ks) (a.put o.dst (.tuple #[v0, .bool true]))) : wpC P ops Q W (o :: l) (Clm.chk :: cs) i ks a := by
  refine wpC_call Clm.chk rfl hw h1 (fun w hb hk => (hc w hb hk).mono ?_) ?_
  · rintro e w' ⟨rfl, hbl⟩
    exact ⟨_, rfl, hbl, by rw [← hx]; rfl, trivial⟩
  · intro v hv
    have hv : v = .tuple #[(o.op.operands.toList.map a.eval).getLastD undef, .bool true] := hv
    subst hv
    rw [hx]; exact h
end
theorem rdA_of {B : Nat} {w : World} {R : Rd} {q1 q2 q3 q4 : Option Addr} {d1 d2 d3 d4 : Nat} (o1 : OF B w (.slice q1 R.a.length d1) R.a) (o2 : OF B w (.slice q2 R.b.length d2) R.b) (o3 : OF B w (.slice q3 R.c.length d3) R.c) (o4 : OF B w (.slice q4 R.d.length d4) R.d) (hn : 1 ≤ R.b.length ∧ 1 ≤ R.c.length)
    (y2 : ∀ k k', (Value.slice q1 R.a.length d1).ownBlock = some k → (Value.slice q2 R.b.length d2).ownBlock = some k' → k < k') (y3 : ∀ k k', (Value.slice q2 R.b.length d2).ownBlock = some k → (Value.slice q3 R.c.length d3).ownBlock = some k' → k < k') (y4 : ∀ k k', (Value.slice q3 R.c.length d3).ownBlock = some k → (Value.slice q4 R.d.length d4).ownBlock = some k' → k < k') : RdA B w R ⟨q1, d1, q2, d2, q3, d3, q4, d4⟩ := by
  obtain ⟨g2, p2, e2, z2, _, _⟩ := o2.fs.ptr hn.1
  obtain ⟨g3, p3, e3, z3, _, _⟩ := o3.fs.ptr hn.2
  simp only [Value.slice.injEq] at z2 z3
  obtain ⟨rfl, _, rfl⟩ := z2
  obtain ⟨rfl, _, rfl⟩ := z3
  refine ⟨⟨o1, o2, o3, o4⟩, ?_, ?_, ?_, ?_, ?_, ?_⟩
  · rintro x y rfl hy; cases hy; have := y2 x.block g2 rfl rfl; show x.block ≠ g2; omega
  · rintro x y rfl hy; cases hy; have h1 := y2 x.block g2 rfl rfl; have h2 := y3 g2 g3 rfl rfl; show x.block ≠ g3; omega
  · rintro x y rfl rfl; have h1 := y2 x.block g2 rfl rfl; have h2 := y3 g2 g3 rfl rfl; have h3 := y4 g3 y.block rfl rfl; omega
  · rintro x y hx hy; cases hx; cases hy; have h2 := y3 g2 g3 rfl rfl; show g2 ≠ g3; omega
  · rintro x y hx rfl; cases hx; have h2 := y3 g2 g3 rfl rfl; have h3 := y4 g3 y.block rfl rfl; show g2 ≠ y.block; omega
  · rintro x y hx rfl; cases hx; have h3 := y4 g3 y.block rfl rfl; show g3 ≠ y.block; omega
end Go.Proofs.Ytpnkapdemgieaaa
set_option linter.unusedSimpArgs false
set_option linter.unusedVariables false
set_option linter.unusedSectionVars false
namespace Go.Proofs.Ytpnkapdemgieaaa
open Go Go.RowKit
open Go.ChangeShapes Go.WideShapes Go.ChangeAt Go.RowKit Go.Joins
theorem RdX.ra {B S B' : Nat} {w : World} {P : Rd} {l : RL} (h : RdX B S w P l) (hB : B' ≤ B) : RdA B' w P l := ⟨h.1.1.base hB, h.2⟩
/-- A rod of the call's own, and a bool. -/
def BRB (w : World) (R : Rd) (b : Bool) (e : Ending) (w' : World) : Prop := ∃ m, e = .returned (.tuple #[.agg #[.slice m.p1 R.a.length m.c1, .slice m.p2 R.b.length m.c2, .slice m.p3 R.c.length m.c3, .slice m.p4 R.d.length m.c4], .bool b]) ∧ Below w.heap.size w w' ∧ RdX w.heap.size w'.heap.size w' R m
def Clm.rodB (R : Rd) (b : Bool) (B : Nat) : Clm := ⟨1, fun _ v => ∃ m, v = .tuple #[rdV R m, .bool b], fun _ v w => ∀ m, v = .tuple #[rdV R m, .bool b] → RdA B w R m, fun _ => ⟨_, nilRL, rfl⟩,
  fun _ v w w' h hb u e => (h u e).later hb, fun h => nomatch h⟩
theorem grown_setCells (b : Nat) : ∀ (vs : List Value) (o : Nat) (w : World), w.grownBy (w.setCells b o vs) (some b)
  | [], _, w => World.grownBy.refl _ _
  | v :: r, o, w => World.grownBy.trans (b := w.setCell ⟨b, o, none⟩ v) ⟨rfl, rfl, rfl, by simp, fun k _ hk => Below.heap_setCell _ _ _ _ (fun e => hk (by rw [e]))⟩ (grown_setCells b r (o + 1) _)
theorem OF.type {B : Nat} {w : World} {u : Value} {xs : List Nat} (h : OF B w u xs) {b : Nat} {cs : Array Value} {t : TypeId} (hb : w.heap[b]? = some (.cells cs t)) (ht : t ≠ 28) : u.ownBlock = none ∨ u.ownBlock ≠ some b := by
  unfold OF World.ownsRow at h
  rcases h.2 with ⟨h', _⟩ | ⟨g, cap, cur, h', _, hg, _⟩
  · exact .inl (by rw [h']; rfl)
  · refine .inr fun e => ?_
    rw [h'] at e
    have e2 : g = b := by simpa [Value.ownBlock] using e
    subst e2
    rw [hg] at hb
    simp only [Option.some.injEq, Obj.cells.injEq] at hb
    exact ht hb.2.1.symm
theorem RdA.setCells {B : Nat} {w : World} {P : Rd} {l : RL} (h : RdA B w P l) {b : Nat} {cs : Array Value} {t : TypeId} (hb : w.heap[b]? = some (.cells cs t)) (ht : t ≠ 28) (o : Nat) (vs : List Value) : RdA B (w.setCells b o vs) P l :=
  have hg := grown_setCells b vs o w
  ⟨⟨h.1.1.kept hg (h.1.1.type hb ht), h.1.2.1.kept hg (h.1.2.1.type hb ht), h.1.2.2.1.kept hg (h.1.2.2.1.type hb ht), h.1.2.2.2.kept hg (h.1.2.2.2.type hb ht)⟩, h.2⟩
section
variable {P : Program} {ops : Array Oper} {Q : Exit → Act → World → Prop} {W : World} {l : List Oper} {cs : List Clm} {i : Nat} {ks : List (Nat × (World → Prop))} {a : Act} {o : Oper}
end
end Go.Proofs.Ytpnkapdemgieaaa
