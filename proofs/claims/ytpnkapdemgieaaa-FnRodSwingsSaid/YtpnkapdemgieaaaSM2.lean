/-
  What the small functions over numbers return (the program's and the reference's), each proved once. No condition but what each contract says.
  What a call that only makes memory leaves of some blocks, in one word; what such calls hand back (floats up to a NaN's bits); the steps of a plan for them. No condition; nothing of the program is named here.
  Stuffs: which are valid (the program's and the reference's), each function proved once. No condition but what each contract says.
  How warm stuff with a heat is, which part of it is molten, how easily heat flows (the program's and the reference's), each function proved once. No condition but what each contract says.
  Which words are finite; shares; variadic calls with few numbers. No condition but what each law says.
  What IEEE 754's rounding does to the exact value of a result: the nearest number of a grid that has at least the format's digits. Plain laws on data; no condition but what each law says.
  Words of floats as rational numbers: what an operation gives, rounded; bounds that are kept. No condition but what each law says.
  The error function in 64 bits as a plain function, and how great it gets. No condition but what each law says.
  Words as exact numbers: small dyadic ones, and what is reckoned of them without rounding; what is rounded, between bounds. No condition but what each law says; nothing of the program is named here.
  Slices that are only read: later they hold what they held. No condition.
  Slices of 32-bit numbers: what a call makes, writes and compares; the laws' own helpers (toFloat32S, eqFloat32S, markFloat32S, heldFloat32S, szFloat32S), each proved once. No condition but what each contract says.
  Slices that are appended to, one number at a time; which lists are finite (the reference's). No condition but what each law says.
  Marks: what a call leaves that writes into one own slice; slices that lie apart. No condition but what each law says.
  Rows of the call's own, with the blocks between which they lie; what a call leaves that writes into some of these blocks. No condition; nothing of the program is named here.
-/
import Derived.Test.YtpnkapdemgieaaaSM1
set_option linter.unusedSimpArgs false
set_option linter.unusedVariables false
set_option linter.unusedSectionVars false
namespace Go.Proofs.Ytpnkapdemgieaaa
open Go Go.RowKit
def RI (w : World) (n : Int) (e : Ending) (w' : World) : Prop := e = .returned (.int .i64 n) ∧ ∃ m, w' = w.drewN m
/-- A slice of 32-bit numbers with these words. -/
def FS (w : World) (v : Value) (xs : List Nat) : Prop :=
  ∃ p c, v = .slice p xs.length c ∧ c ≤ 9223372036854775807 ∧ xs.length ≤ c ∧ ∀ i, i < xs.length → ∃ b o, p = some ⟨b, o, none⟩ ∧ w.cell? ⟨b, o + i, none⟩ = some (.float .f32 (xs.getD i 0))
theorem FS_view {w : World} {v : Value} {xs : List Nat} (h : FS w v xs) : ∃ p c, v = .slice p xs.length c ∧ c ≤ 9223372036854775807 ∧ xs.length ≤ c ∧ ∀ i, i < xs.length → ∃ b o, p = some ⟨b, o, none⟩ ∧ w.cell? ⟨b, o + i, none⟩ = some (.float .f32 (xs.getD i 0)) := h
def findI (p : Nat → Bool) (xs : List Nat) : Int := match xs.findIdx? p with | some i => i | none => -1
theorem findI_at (p : Nat → Bool) (xs : List Nat) (k : Nat) (hk : k < xs.length) (h0 : ∀ j, j < k → p (xs.getD j 0) = false) (h1 : p (xs.getD k 0) = true) : findI p xs = k := by
  have : xs.findIdx? p = some k := by
    rw [List.findIdx?_eq_some_iff_getElem]
    refine ⟨hk, by simpa [hk] using h1, fun j hj => ?_⟩
    have := h0 j hj
    simpa [show j < xs.length by omega] using this
  simp [findI, this]
theorem findI_no (p : Nat → Bool) (xs : List Nat) (h0 : ∀ j, j < xs.length → p (xs.getD j 0) = false) : findI p xs = -1 := by
  have : xs.findIdx? p = none := by
    rw [List.findIdx?_eq_none_iff]
    intro x hx
    obtain ⟨j, hj, rfl⟩ := List.getElem_of_mem hx
    have := h0 j hj
    simpa [hj] using this
  simp [findI, this]
def inB (n lo hi : Int) : Bool := decide (lo ≤ n) && decide (n ≤ hi)
theorem inB_split (n lo hi : Int) : (lo ≤ n ∧ n ≤ hi) ∨ (lo ≤ n ∧ ¬ n ≤ hi) ∨ ¬ lo ≤ n := by omega
set_option maxHeartbeats 400000 in
theorem within_any (n lo hi : Int) (w : World) :
    Calls Try.prog 52 #[.int .i64 n, .int .i64 lo, .int .i64 hi] w (RB w (inB n lo hi)) := by
  rcases inB_split n lo hi with ⟨h1, h2⟩ | ⟨h1, h2⟩ | h1 <;>
  · go_enter Try.func52, Try.ntmps52
    go_wp2
    go_ret
    exact ⟨by simp [inB]; omega, 0, rfl⟩
/-- Is a number finite; is it finite and greater than 0; at least 0; a number, if it is finite. -/
def fin (k : FloatKind) (c : Nat) : Bool := feq k (fop .sub k c c) (cn k 0)
def abv (c : Nat) : Bool := fin .f32 c && fgt .f32 c (cn .f32 0)
def lst (c : Nat) : Bool := fin .f32 c && fge .f32 c (cn .f32 0)
def chk (c : Nat) : Nat := if fin .f32 c then c else cn .f32 0
theorem chk_yes {c : Nat} (h : fin .f32 c = true) : chk c = c := by simp [chk, h]
theorem chk_no {c : Nat} (h : fin .f32 c = false) : chk c = cn .f32 0 := by simp [chk, h]
set_option maxHeartbeats 400000 in
theorem IsFinite_any (x : Nat) (w : World) : Calls Try.prog 41 #[.float .f32 x] w (RB w (fin .f32 (cn .f32 x))) := by
  go_enter Try.func41, Try.ntmps41
  go_wp2_with (first | (with_reducible refine at_list ?_; refine wpList_fop rfl rfl rfl rfl rfl ?_; intro r n hr0; have hr := hr0 _ _ (by first | with_reducible assumption | exact rfl) (by first | with_reducible assumption | exact rfl); clear hr0) | (with_reducible refine at_list ?_; refine wpList_neg rfl rfl rfl ?_; intro r hr0; have hr := hr0 _ (by first | with_reducible assumption | exact rfl); clear hr0) | (with_reducible refine at_list ?_; refine wpList_fop_g rfl rfl rfl rfl rfl ?_; intro r n hr0; have hr := hr0 _ _ (by first | with_reducible assumption | exact rfl) (by first | with_reducible assumption | exact rfl); clear hr0) | (with_reducible refine at_list ?_; refine wpList_wide_g rfl rfl Try.underlying28 Try.underlying39 rfl ?_; intro r n hr0; have hr := hr0 _ (by first | with_reducible assumption | exact rfl); clear hr0) | (with_reducible refine at_list ?_; refine wpList_wide rfl rfl rfl Try.underlying28 Try.underlying39 ?_; intro r n hr0; have hr := hr0 _ (by first | with_reducible assumption | exact rfl); clear hr0))
  go_ret
  exact ⟨by simp only [*]; rfl, _, rfl⟩
set_option maxHeartbeats 400000 in
theorem checked_any (x : Nat) (w : World) : Calls Try.prog 47 #[.float .f32 x] w (RFB w .f32 (chk (cn .f32 x)) (fin .f32 (cn .f32 x))) := by
  rcases h : fin .f32 (cn .f32 x)
  · go_enter Try.func47, Try.ntmps47
    go_wp2_with (first | (with_reducible refine at_list ?_; refine wpList_fop rfl rfl rfl rfl rfl ?_; intro r n hr0; have hr := hr0 _ _ (by first | with_reducible assumption | exact rfl) (by first | with_reducible assumption | exact rfl); clear hr0) | (with_reducible refine at_list ?_; refine wpList_neg rfl rfl rfl ?_; intro r hr0; have hr := hr0 _ (by first | with_reducible assumption | exact rfl); clear hr0) | (with_reducible refine at_list ?_; refine wpList_fop_g rfl rfl rfl rfl rfl ?_; intro r n hr0; have hr := hr0 _ _ (by first | with_reducible assumption | exact rfl) (by first | with_reducible assumption | exact rfl); clear hr0) | (with_reducible refine at_list ?_; refine wpList_wide_g rfl rfl Try.underlying28 Try.underlying39 rfl ?_; intro r n hr0; have hr := hr0 _ (by first | with_reducible assumption | exact rfl); clear hr0) | (with_reducible refine at_list ?_; refine wpList_wide rfl rfl rfl Try.underlying28 Try.underlying39 ?_; intro r n hr0; have hr := hr0 _ (by first | with_reducible assumption | exact rfl); clear hr0) | (go_at_call 41; refine (IsFinite_any _ _).mono ?_; rintro e w' ⟨rfl, n, rfl⟩))
    go_ret2
    exact ⟨_, rfl, (chk_no h).symm, _, rfl⟩
  · go_enter Try.func47, Try.ntmps47
    go_wp2_with (first | (with_reducible refine at_list ?_; refine wpList_fop rfl rfl rfl rfl rfl ?_; intro r n hr0; have hr := hr0 _ _ (by first | with_reducible assumption | exact rfl) (by first | with_reducible assumption | exact rfl); clear hr0) | (with_reducible refine at_list ?_; refine wpList_neg rfl rfl rfl ?_; intro r hr0; have hr := hr0 _ (by first | with_reducible assumption | exact rfl); clear hr0) | (with_reducible refine at_list ?_; refine wpList_fop_g rfl rfl rfl rfl rfl ?_; intro r n hr0; have hr := hr0 _ _ (by first | with_reducible assumption | exact rfl) (by first | with_reducible assumption | exact rfl); clear hr0) | (with_reducible refine at_list ?_; refine wpList_wide_g rfl rfl Try.underlying28 Try.underlying39 rfl ?_; intro r n hr0; have hr := hr0 _ (by first | with_reducible assumption | exact rfl); clear hr0) | (with_reducible refine at_list ?_; refine wpList_wide rfl rfl rfl Try.underlying28 Try.underlying39 ?_; intro r n hr0; have hr := hr0 _ (by first | with_reducible assumption | exact rfl); clear hr0) | (go_at_call 41; refine (IsFinite_any _ _).mono ?_; rintro e w' ⟨rfl, n, rfl⟩))
    go_ret2
    exact ⟨_, rfl, (chk_yes h).symm, _, rfl⟩
set_option maxHeartbeats 400000 in
theorem arePositive1_any (x : Nat) (w : World) : Calls Try.prog 76 #[.float .f32 x] w (RB w (!fin .f32 (cn .f32 x) || fle .f32 (cn .f32 x) (cn .f32 0))) := by
  rcases h : fin .f32 (cn .f32 x) <;>
  · go_enter Try.func76, Try.ntmps76
    go_wp2_with (first | (with_reducible refine at_list ?_; refine wpList_fop rfl rfl rfl rfl rfl ?_; intro r n hr0; have hr := hr0 _ _ (by first | with_reducible assumption | exact rfl) (by first | with_reducible assumption | exact rfl); clear hr0) | (with_reducible refine at_list ?_; refine wpList_neg rfl rfl rfl ?_; intro r hr0; have hr := hr0 _ (by first | with_reducible assumption | exact rfl); clear hr0) | (with_reducible refine at_list ?_; refine wpList_fop_g rfl rfl rfl rfl rfl ?_; intro r n hr0; have hr := hr0 _ _ (by first | with_reducible assumption | exact rfl) (by first | with_reducible assumption | exact rfl); clear hr0) | (with_reducible refine at_list ?_; refine wpList_wide_g rfl rfl Try.underlying28 Try.underlying39 rfl ?_; intro r n hr0; have hr := hr0 _ (by first | with_reducible assumption | exact rfl); clear hr0) | (with_reducible refine at_list ?_; refine wpList_wide rfl rfl rfl Try.underlying28 Try.underlying39 ?_; intro r n hr0; have hr := hr0 _ (by first | with_reducible assumption | exact rfl); clear hr0) | (go_at_call 41; refine (IsFinite_any _ _).mono ?_; rintro e w' ⟨rfl, n, rfl⟩))
    go_ret
    exact ⟨by simp, _, rfl⟩
set_option maxHeartbeats 400000 in
theorem areFinite1_any (x : Nat) (w : World) : Calls Try.prog 75 #[.float .f32 x] w (RB w (!fin .f32 (cn .f32 x))) := by
  go_enter Try.func75, Try.ntmps75
  go_wp2_with (first | (with_reducible refine at_list ?_; refine wpList_fop rfl rfl rfl rfl rfl ?_; intro r n hr0; have hr := hr0 _ _ (by first | with_reducible assumption | exact rfl) (by first | with_reducible assumption | exact rfl); clear hr0) | (with_reducible refine at_list ?_; refine wpList_neg rfl rfl rfl ?_; intro r hr0; have hr := hr0 _ (by first | with_reducible assumption | exact rfl); clear hr0) | (with_reducible refine at_list ?_; refine wpList_fop_g rfl rfl rfl rfl rfl ?_; intro r n hr0; have hr := hr0 _ _ (by first | with_reducible assumption | exact rfl) (by first | with_reducible assumption | exact rfl); clear hr0) | (with_reducible refine at_list ?_; refine wpList_wide_g rfl rfl Try.underlying28 Try.underlying39 rfl ?_; intro r n hr0; have hr := hr0 _ (by first | with_reducible assumption | exact rfl); clear hr0) | (with_reducible refine at_list ?_; refine wpList_wide rfl rfl rfl Try.underlying28 Try.underlying39 ?_; intro r n hr0; have hr := hr0 _ (by first | with_reducible assumption | exact rfl); clear hr0) | (go_at_call 41; refine (IsFinite_any _ _).mono ?_; rintro e w' ⟨rfl, n, rfl⟩))
  go_ret
  exact ⟨rfl, _, rfl⟩
set_option maxHeartbeats 1000000 in
theorem IndexFunc_any (g : Nat) (p : Nat → Bool) (xs : List Nat) (v : Value) (w : World) (hs : FS w v xs) (hcf : ∀ x w', (callFunc g #[.float .f32 x]).run Try.prog w' = .ok (.enter g #[.float .f32 x]) w')
    (hg : ∀ j, j < xs.length → ∀ m, Calls Try.prog g #[.float .f32 (xs.getD j 0)] (w.drewN m) (RB (w.drewN m) (p (xs.getD j 0)))) :
    Calls Try.prog 49 #[v, .func (.func g) #[] #[]] w (RI w (findI p xs)) := by
  have HG := Lib.hid hg; clear hg
  obtain ⟨q, c, rfl, hc1, hc0, HV⟩ := FS_view hs
  have HV := Lib.hid HV
  clear hs
  go_enter Try.func49, Try.ntmps49
  go_wp2
  go_loopw [8] (fun t wr => ∃ k m : Nat, k ≤ xs.length ∧ t = .int .i64 k ∧ wr = w.drewN m ∧ Hid (∀ j, j < k → p (xs.getD j 0) = false)) (fun t _ => xs.length - (intOf t).toNat)
  case atStart => exact ⟨0, 0, Nat.zero_le _, rfl, rfl, fun j hj => by omega⟩
  case round =>
    obtain ⟨k, m, hk, rfl, rfl, hp⟩ := hrel
    by_cases hlt : k < xs.length
    · obtain ⟨b, o, rfl, hcell⟩ := HV.out k hlt
      clear HV
      generalize hx : xs.getD k 0 = x at hcell
      have Hx := Lib.hid hx; clear hx
      rcases hb : p x
      · go_wp2_with fail
        refine (Hx.out ▸ HG.out k hlt m).mono ?_
        rintro e w' ⟨rfl, n, rfl⟩
        go_wp2_with fail
        go_roundw
        case rel => exact ⟨k + 1, m + n, by omega, by go_num, by simp, fun j hj => by rcases Nat.lt_succ_iff_lt_or_eq.1 hj with h | rfl; exact hp j h; rw [Hx.out]; exact hb⟩
        case measure => simp [intOf]; omega
      · go_wp2_with fail
        refine (Hx.out ▸ HG.out k hlt m).mono ?_
        rintro e w' ⟨rfl, n, rfl⟩
        go_wp2_with fail
        go_ret
        exact ⟨by rw [findI_at p xs k hlt hp (by rw [Hx.out]; exact hb)]; rfl, m + n, by simp⟩
    · go_wp2
      go_ret
      exact ⟨by rw [findI_no p xs (fun j hj => hp.out j (by omega))]; rfl, m, rfl⟩
theorem findI_ge (p : Nat → Bool) (xs : List Nat) : decide (0 ≤ findI p xs) = xs.any p := by
  unfold findI
  cases h : xs.findIdx? p with
  | none =>
    have := List.findIdx?_eq_none_iff.1 h
    simp only [show ¬ (0 : Int) ≤ -1 by omega, decide_false]
    symm
    rw [List.any_eq_false]
    intro x hx
    simpa using this x hx
  | some i =>
    rw [List.findIdx?_eq_some_iff_getElem] at h
    obtain ⟨hi, hp, _⟩ := h
    simp only [show (0 : Int) ≤ (i : Int) by omega, decide_true]
    symm
    rw [List.any_eq_true]
    exact ⟨_, List.getElem_mem hi, hp⟩
set_option maxHeartbeats 400000 in
theorem ContainsFunc_any (g : Nat) (p : Nat → Bool) (xs : List Nat) (v : Value) (w : World) (hs : FS w v xs) (hcf : ∀ x w', (callFunc g #[.float .f32 x]).run Try.prog w' = .ok (.enter g #[.float .f32 x]) w')
    (hg : ∀ x m, Calls Try.prog g #[.float .f32 x] (w.drewN m) (RB (w.drewN m) (p x))) :
    Calls Try.prog 74 #[v, .func (.func g) #[] #[]] w (RB w (xs.any p)) := by
  have HC := Lib.hid hcf; clear hcf
  have HG := Lib.hid hg; clear hg
  have hq := findI_ge p xs
  go_enter Try.func74, Try.ntmps74
  go_wp2_with fail
  refine (IndexFunc_any g p xs v _ hs HC.out (fun j _ m => HG.out _ m)).mono ?_
  rintro e w' ⟨rfl, n, rfl⟩
  go_wp2_with fail
  go_ret
  exact ⟨rfl, _, rfl⟩
set_option maxHeartbeats 400000 in
theorem arePositive_any (xs : List Nat) (v : Value) (w : World) (hs : FS w v xs) :
    Calls Try.prog 45 #[v] w (RB w (!xs.any fun x => !fin .f32 (cn .f32 x) || fle .f32 (cn .f32 x) (cn .f32 0))) := by
  go_enter Try.func45, Try.ntmps45
  go_wp2_with fail
  refine (ContainsFunc_any 76 (fun x => !fin .f32 (cn .f32 x) || fle .f32 (cn .f32 x) (cn .f32 0)) xs v _ hs (fun x w' => by kernel_rfl) (fun x m => arePositive1_any x _)).mono ?_
  rintro e w' ⟨rfl, n, rfl⟩
  go_wp2_with fail
  go_ret
  exact ⟨rfl, _, rfl⟩
set_option maxHeartbeats 400000 in
theorem areFinite_any (xs : List Nat) (v : Value) (w : World) (hs : FS w v xs) :
    Calls Try.prog 44 #[v] w (RB w (!xs.any fun x => !fin .f32 (cn .f32 x))) := by
  go_enter Try.func44, Try.ntmps44
  go_wp2_with fail
  refine (ContainsFunc_any 75 (fun x => !fin .f32 (cn .f32 x)) xs v _ hs (fun x w' => by kernel_rfl) (fun x m => areFinite1_any x _)).mono ?_
  rintro e w' ⟨rfl, n, rfl⟩
  go_wp2_with fail
  go_ret
  exact ⟨rfl, _, rfl⟩
theorem order_self {k : FloatKind} {c : Nat} (h : isN k c = false) : k.format.order c c = some .eq := by
  unfold isN FloatKind.decode at h
  unfold Ieee.Format.order
  cases hd : k.format.read c with
  | nan => rw [hd] at h; cases h
  | infinity s => simp [Ieee.Datum.order, compare, compareOfLessAndEq]
  | number s m e => simp [Ieee.Datum.order, compare, compareOfLessAndEq]
end Go.Proofs.Ytpnkapdemgieaaa
set_option linter.unusedSimpArgs false
set_option linter.unusedVariables false
set_option linter.unusedSectionVars false
namespace Go.Proofs.Ytpnkapdemgieaaa
open Go Go.RowKit
@[go_sem] theorem size_drewN' (w : World) (n : Nat) : (w.drewN n).heap.size = w.heap.size := rfl
@[go_sem] theorem alloc_drewN (w : World) (n : Nat) (o : Obj) : (w.drewN n).alloc o = (w.alloc o).drewN n := rfl
@[go_sem] theorem setCell_drewN (w : World) (n : Nat) (a : Addr) (v : Value) : (w.drewN n).setCell a v = (w.setCell a v).drewN n := rfl
/-- These blocks are there. -/
def Trk (w : World) (L : List Nat) : Prop := ∀ b ∈ L, b < w.heap.size
theorem Trk.nil (w : World) : Trk w [] := fun b h => by cases h
theorem Trk.more {w : World} {L : List Nat} {b : Nat} (h : Trk w L) (hb : b < w.heap.size) : Trk w (b :: L) := fun c hc => by
  rcases List.mem_cons.1 hc with rfl | hc
  · exact hb
  · exact h c hc
theorem Trk.alloc {w : World} {L : List Nat} (h : Trk w L) (o : Obj) : Trk (w.alloc o) (w.heap.size :: L) := fun c hc => by
  rw [World.size_alloc]
  rcases List.mem_cons.1 hc with rfl | hc
  · omega
  · have := h c hc; omega
theorem Trk.setCell {w : World} {L : List Nat} (h : Trk w L) (a : Addr) (v : Value) : Trk (w.setCell a v) L := fun c hc => by rw [World.size_setCell]; exact h c hc
theorem Trk.drewN {w : World} {L : List Nat} (h : Trk w L) (n : Nat) : Trk (w.drewN n) L := h
theorem Trk.drew {w : World} {L : List Nat} (h : Trk w L) : Trk w.drew L := h
theorem Trk.drawn {w : World} {L : List Nat} (h : Trk w L) (n : Nat) : Trk { w with drawn := n } L := h
/-- They hold what they held. -/
def SameOn (w w' : World) : List Nat → Prop
  | [] => True
  | b :: L => ((b < w'.heap.size ∧ b ≠ w'.heap.size ∧ w'.heap.size ≠ b ∧ (∀ k, b ≠ w'.heap.size + k) ∧ (∀ k, w'.heap.size + k ≠ b)) ∧ (∀ o, w'.cell? ⟨b, o, none⟩ = w.cell? ⟨b, o, none⟩) ∧ (∀ o, w'.frozen? ⟨b, o, none⟩ = w.frozen? ⟨b, o, none⟩)) ∧ SameOn w w' L
theorem bv_next {w w' : World} (hb : Below w.heap.size w w') : ∀ {L : List Nat}, Trk w L → Trk w' L ∧ SameOn w w' L
  | [], _ => ⟨Trk.nil _, trivial⟩
  | b :: L, h => by
    have h0 : b < w.heap.size := h b (by simp)
    have h1 := hb.size
    obtain ⟨i1, i2⟩ := bv_next hb (L := L) (fun c hc => h c (by simp [hc]))
    exact ⟨i1.more (by omega), ⟨⟨by omega, by omega, by omega, fun k => by omega, fun k => by omega⟩, fun o => hb.cell h0, fun o => hb.frozen h0⟩, i2⟩
/-- What a function that makes memory hands back: a float, known but for a NaN's bits; a float and a bool. -/
def BF (w : World) (k : FloatKind) (c : Nat) (e : Ending) (w' : World) : Prop := ∃ r, e = .returned (.float k r) ∧ cn k r = c ∧ Below w.heap.size w w'
def BFB (w : World) (k : FloatKind) (c : Nat) (b : Bool) (e : Ending) (w' : World) : Prop := ∃ r, e = .returned (.tuple #[.float k r, .bool b]) ∧ cn k r = c ∧ Below w.heap.size w w'
theorem below_draws {w : World} (n : Nat) : Below w.heap.size w (w.drewN n) := below_drewN (Below.refl _ _) n
theorem RF.bf {w : World} {k : FloatKind} {c : Nat} {e : Ending} {w' : World} (h : RF w k c e w') : BF w k c e w' := by obtain ⟨r, rfl, hr, n, rfl⟩ := h; exact ⟨r, rfl, hr, below_draws _⟩
/-- A float of a class, in a plan; a float and a bool. -/
def Clm.fl (k : FloatKind) (c : Nat) : Clm := ⟨1, fun _ v => ∃ r, v = .float k r ∧ cn k r = cn k c, fun _ _ _ => True, fun _ => ⟨_, c, rfl, rfl⟩, fun _ _ _ _ _ _ => trivial, fun h => nomatch h⟩
section
variable {P : Program} {ops : Array Oper} {Q : Exit → Act → World → Prop} {W : World}
variable {l : List Oper} {cs : List Clm} {i : Nat} {ks : List (Nat × (World → Prop))} {a : Act} {o : Oper}
theorem wpC_callF (k : FloatKind) (c : Nat) (hw : Region.wanted o (yielded ops a.tmps) = true) {f : FuncId} {args : Array Value} (h1 : ∀ w, (execOp a.eval o).run P w = .ok (.enter f args) w) (hcc : cn k c = c)
    (hc : ∀ w, Below W.heap.size W w → depK o ks w → Calls P f args w (BF w k c))
    (h : ∀ r, cn k r = c → wpC P ops Q W l cs (i + 1) ((i, fun _ => True) :: ks) (a.put o.dst (.float k r))) : wpC P ops Q W (o :: l) (Clm.fl k c :: cs) i ks a := by
  refine wpC_call (Clm.fl k c) rfl hw h1 (fun w hb hk => (hc w hb hk).mono ?_) ?_
  · rintro e w' ⟨r, rfl, hr, hbl⟩; exact ⟨_, rfl, hbl, ⟨r, rfl, by rw [hr, hcc]⟩, trivial⟩
  · rintro v ⟨r, rfl, hr⟩; exact h r (by rw [hr, hcc])
/-- '-' of a float; 'float64(x)'. -/
def Clm.neg : Clm := ⟨0, fun x v => ∀ k p, x = [.float k p] → ∃ r, v = .float k r ∧ cn k r = fneg k (cn k p), fun _ _ _ => True,
  fun x => by
    by_cases h : ∃ k p, x = [.float k p]
    · obtain ⟨k, p, rfl⟩ := h
      refine ⟨.float k (Op.negFloat k p), fun k' p' e => ?_⟩
      simp only [List.cons.injEq, Value.float.injEq, and_true] at e
      obtain ⟨rfl, rfl⟩ := e
      exact ⟨_, rfl, cn_neg _ _⟩
    · exact ⟨undef, fun k p e => absurd ⟨k, p, e⟩ h⟩,
  fun _ _ _ _ _ _ => trivial, fun _ _ _ _ => trivial⟩
def Clm.wide : Clm := ⟨0, fun x v => ∀ p, x = [.float .f32 p] → ∃ r, v = .float .f64 r ∧ cn .f64 r = Go.Proofs.Ytpnkapdemgieaaa.wide (cn .f32 p), fun _ _ _ => True,
  fun x => by
    by_cases h : ∃ p, x = [.float .f32 p]
    · obtain ⟨p, rfl⟩ := h
      refine ⟨.float .f64 (Go.Proofs.Ytpnkapdemgieaaa.wide (cn .f32 p)), fun p' e => ?_⟩
      simp only [List.cons.injEq, Value.float.injEq, and_true, true_and] at e
      subst e
      exact ⟨_, rfl, cn_wide _⟩
    · exact ⟨undef, fun p e => absurd ⟨p, e⟩ h⟩,
  fun _ _ _ _ _ _ => trivial, fun _ _ _ _ => trivial⟩
theorem wpC_wide {src dst : TypeId} {X : Operand} (ho : o.op = .convert src dst X) {x : Nat} (hx : a.eval X = .float .f32 x) (hs : P.underlying src = some (.float .f32)) (hd : P.underlying dst = some (.float .f64)) (hw : Region.wanted o (yielded ops a.tmps) = true)
    (h : ∀ r, (∀ cx, cn .f32 x = cx → cn .f64 r = Go.Proofs.Ytpnkapdemgieaaa.wide cx) → wpC P ops Q W l cs (i + 1) ks (a.put o.dst (.float .f64 r))) : wpC P ops Q W (o :: l) (Clm.wide :: cs) i ks a := by
  have hl : o.op.operands.toList.map a.eval = [.float .f32 x] := by rw [ho]; simp [Op.operands, hx]
  simp only [wpC]
  rw [hl]
  refine ⟨.inl ⟨hw, fun _ w => ?_, fun h => absurd rfl h⟩, fun u hu => ?_⟩
  · obtain ⟨r, n, h1, h2⟩ := run_convF (P := P) .f32 .f64 (by decide) src dst x hs hd w (wide_fits x)
    have hr : (execOp a.eval o).run P w = .ok (.value (.float .f64 r)) (w.drewN n) := by
      simp only [execOp, ho, hx]
      simp [h1, Result.andThen]
    rw [hr, hl]
    refine ⟨⟨n, rfl⟩, fun p' e => ?_⟩
    simp only [List.cons.injEq, Value.float.injEq, and_true, true_and] at e
    subst e
    exact ⟨_, rfl, by rw [h2, wide_cn]; rfl⟩
  · obtain ⟨r, rfl, hr⟩ := hu x rfl
    exact h r (by rintro cx rfl; exact hr)
end
end Go.Proofs.Ytpnkapdemgieaaa
set_option linter.unusedSimpArgs false
set_option linter.unusedVariables false
set_option linter.unusedSectionVars false
namespace Go.Proofs.Ytpnkapdemgieaaa
open Go Go.RowKit
/-- Is a stuff valid. -/
def St.ok (s : St) : Bool := abv (cn .f32 s.a) && (abv (cn .f32 s.b) && (abv (cn .f32 s.c) && (abv (cn .f32 s.d) && (fin .f32 (cn .f32 s.p) && abv (cn .f32 s.l)))))
/-- A stuff's cells in memory. -/
def St.at (s : St) (w : World) (b o : Nat) : Prop := w.cell? ⟨b, o, none⟩ = some (.float .f32 s.a) ∧ w.cell? ⟨b, o + 1, none⟩ = some (.float .f32 s.b) ∧ w.cell? ⟨b, o + 2, none⟩ = some (.float .f32 s.c) ∧
  w.cell? ⟨b, o + 3, none⟩ = some (.float .f32 s.d) ∧ w.cell? ⟨b, o + 4, none⟩ = some (.float .f32 s.p) ∧ w.cell? ⟨b, o + 5, none⟩ = some (.float .f32 s.l)
theorem fin_not_nan {k : FloatKind} {c : Nat} (h : fin k c = true) : isN k c = false := by
  cases hn : isN k c with
  | false => rfl
  | true =>
    unfold fin fop at h
    rw [floatBits_nan_l hn] at h
    simp only [Option.getD_none, feq] at h
    rw [order_nan_l (isN_qn k)] at h
    cases h
theorem isN_lit (k : FloatKind) : isN k 0 = false := by cases k <;> decide +kernel
theorem cn_zero (k : FloatKind) : cn k 0 = 0 := cn_of_not (isN_lit k)
theorem order_total {k : FloatKind} {x y : Nat} (hx : isN k x = false) (hy : isN k y = false) : k.format.order x y ≠ none := by
  unfold isN FloatKind.decode at hx hy
  unfold Ieee.Format.order
  cases h1 : k.format.read x <;> rw [h1] at hx <;> cases h2 : k.format.read y <;> rw [h2] at hy <;> simp_all [Ieee.Datum.isNaN, Ieee.Datum.order]
theorem fle_not_fgt {k : FloatKind} {x y : Nat} (hx : isN k x = false) (hy : isN k y = false) : fle k x y = !fgt k x y := by
  unfold fle fgt
  cases h : k.format.order x y with
  | none => exact absurd h (order_total hx hy)
  | some o => cases o <;> rfl
theorem flt_not_fge {k : FloatKind} {x y : Nat} (hx : isN k x = false) (hy : isN k y = false) : flt k x y = !fge k x y := by
  unfold flt fge
  cases h : k.format.order x y with
  | none => exact absurd h (order_total hx hy)
  | some o => cases o <;> rfl
theorem abv_neg (c : Nat) : (!fin .f32 c || fle .f32 c (cn .f32 0)) = !abv c := by
  unfold abv
  cases h : fin .f32 c with
  | false => rfl
  | true => simp [fle_not_fgt (fin_not_nan h) (by rw [isN_cn]; exact isN_lit _)]
theorem FS_of {w : World} {b o n c : Nat} {xs : List Nat} (hn : xs.length = n) (hc : n ≤ c) (hm : c ≤ 9223372036854775807) (h : ∀ i, i < n → w.cell? ⟨b, o + i, none⟩ = some (.float .f32 (xs.getD i 0))) : FS w (.slice (some ⟨b, o, none⟩) n c) xs := by
  subst hn
  exact ⟨_, c, rfl, hm, hc, fun i hi => ⟨b, o, rfl, h i hi⟩⟩
end Go.Proofs.Ytpnkapdemgieaaa
set_option linter.unusedSimpArgs false
set_option linter.unusedVariables false
set_option linter.unusedSectionVars false
namespace Go.Proofs.Ytpnkapdemgieaaa
open Go Go.RowKit
/-- A stuff, all NaNs taken as one. -/
def St.k (s : St) : St := ⟨cn .f32 s.a, cn .f32 s.b, cn .f32 s.c, cn .f32 s.d, cn .f32 s.p, cn .f32 s.l⟩
def warmC (s : St) (h : Nat) : Nat := if flt .f32 h (cn .f32 0) then fop .add .f32 s.p (fop .quo .f32 h s.a) else if fgt .f32 h s.l then fop .add .f32 s.p (fop .quo .f32 (fop .sub .f32 h s.l) s.b) else s.p
def partC (s : St) (h : Nat) : Nat := if flt .f32 h (cn .f32 0) then cn .f32 0 else if fgt .f32 h s.l then cn .f32 1065353216 else fop .quo .f32 h s.l
def easeC (s : St) (h : Nat) : Nat := fop .add .f32 s.c (fop .mul .f32 (partC s h) (fop .sub .f32 s.d s.c))
theorem cn_warmC (s : St) (h : Nat) : cn .f32 (warmC s.k h) = warmC s.k h := by unfold warmC; split; exact cn_fop _ _ _ _; split; exact cn_fop _ _ _ _; exact cn_cn _ _
theorem cn_partC (s : St) (h : Nat) : cn .f32 (partC s h) = partC s h := by unfold partC; split; exact cn_cn _ _; split; exact cn_cn _ _; exact cn_fop _ _ _ _
theorem cn_easeC (s : St) (h : Nat) : cn .f32 (easeC s h) = easeC s h := cn_fop _ _ _ _
end Go.Proofs.Ytpnkapdemgieaaa
set_option linter.unusedSimpArgs false
set_option linter.unusedVariables false
set_option linter.unusedSectionVars false
namespace Go.Proofs.Ytpnkapdemgieaaa
open Go Go.RowKit
/-- A number if all is valid and it is finite. -/
def gF (ok : Bool) (c : Nat) : Nat := if ok then chk c else cn .f32 0
theorem cn_chk {c : Nat} (h : cn .f32 c = c) : cn .f32 (chk c) = chk c := by unfold chk; split; exact h; exact cn_cn .f32 0
theorem cn_gF {ok : Bool} {c : Nat} (h : cn .f32 c = c) : cn .f32 (gF ok c) = gF ok c := by unfold gF; split; exact cn_chk h; exact cn_cn .f32 0
/-- Is a datum a number. -/
def isNum : Ieee.Datum → Bool | .number .. => true | _ => false
theorem fin_num (k : FloatKind) (c : Nat) : fin k c = isNum (k.decode c) := by
  unfold fin fop floatBits Ieee.Format.sub
  show feq k (((((k.decode c).sum (k.decode c).opposite).map k.format.write).getD (qn k))) (cn k 0) = _
  rw [cn_zero]
  cases hd : k.decode c with
  | nan s t =>
    simp only [Ieee.Datum.sum, Ieee.Datum.opposite, Option.map_none, Option.getD_none, isNum, feq]
    rw [order_nan_l (isN_qn k)]; rfl
  | infinity s =>
    have : (Ieee.Datum.infinity s).sum (Ieee.Datum.infinity s).opposite = none := by cases s <;> rfl
    rw [this]
    simp only [Option.map_none, Option.getD_none, isNum, feq]
    rw [order_nan_l (isN_qn k)]; rfl
  | number s m i =>
    have : (Ieee.Datum.number s m i).sum (Ieee.Datum.number s m i).opposite = some (.number false 0 (min i i)) := by
      simp only [Ieee.Datum.sum, Ieee.Datum.opposite]
      have h0 : Ieee.signed s m (i - min i i).toNat + Ieee.signed (!s) m (i - min i i).toNat = 0 := by
        cases s <;> simp [Ieee.signed] <;> omega
      rw [h0]
      cases s <;> rfl
    rw [this]
    have hw : k.format.write (.number false 0 (min i i)) = 0 := by
      simp [Ieee.Format.write, Ieee.Format.nearest, Ieee.Format.word]
    simp only [Option.map_some, Option.getD_some, hw, isNum, feq]
    rw [order_self (isN_lit k)]; rfl
theorem FS1 {w : World} {b x : Nat} (h : w.cell? ⟨b, 0, none⟩ = some (.float .f32 x)) : FS w (.slice (some ⟨b, 0, none⟩) 1 1) [x] := by
  refine FS_of (o := 0) (n := 1) (c := 1) rfl (by omega) (by omega) fun i hi => ?_
  obtain rfl : i = 0 := by omega
  exact h
theorem FS2 {w : World} {b x y : Nat} (h : w.cell? ⟨b, 0, none⟩ = some (.float .f32 x)) (h2 : w.cell? ⟨b, 1, none⟩ = some (.float .f32 y)) : FS w (.slice (some ⟨b, 0, none⟩) 2 2) [x, y] := by
  refine FS_of (o := 0) (n := 2) (c := 2) rfl (by omega) (by omega) fun i hi => ?_
  rcases (show i = 0 ∨ i = 1 by omega) with rfl | rfl
  · exact h
  · exact h2
theorem arePos1_any (x : Nat) (v : Value) (w : World) (hs : FS w v [x]) : Calls Try.prog 45 #[v] w (RB w (abv (cn .f32 x))) := by
  have h := arePositive_any [x] v w hs
  simp only [abv_neg, List.any_cons, List.any_nil, Bool.or_false, Bool.not_not] at h
  exact h
theorem areFin2_any (x y : Nat) (v : Value) (w : World) (hs : FS w v [x, y]) : Calls Try.prog 44 #[v] w (RB w (fin .f32 (cn .f32 x) && fin .f32 (cn .f32 y))) := by
  have h := areFinite_any [x, y] v w hs
  simp only [List.any_cons, List.any_nil, Bool.or_false, Bool.not_not, Bool.not_or] at h
  exact h
end Go.Proofs.Ytpnkapdemgieaaa
set_option linter.unusedSimpArgs false
set_option linter.unusedVariables false
set_option linter.unusedSectionVars false
namespace Go.Proofs.Ytpnkapdemgieaaa
def tp (z : Int) : Rat := (2 : Rat) ^ z
theorem tp_pos (z : Int) : 0 < tp z := Rat.zpow_pos (by decide)
theorem tp_add (a b : Int) : tp (a + b) = tp a * tp b := Rat.zpow_add (by decide) a b
theorem tp_zero : tp 0 = 1 := Rat.zpow_zero 2
theorem tp_one : tp 1 = 2 := Rat.zpow_one 2
theorem tp_nat (n : Nat) : tp n = ((2 ^ n : Nat) : Rat) := by
  unfold tp
  rw [Rat.zpow_natCast, Rat.natCast_pow]; rfl
theorem tp_succ (a : Int) : tp (a + 1) = 2 * tp a := by rw [tp_add, tp_one, Rat.mul_comm]
theorem tp_le {a b : Int} (h : a ≤ b) : tp a ≤ tp b := by
  obtain ⟨n, rfl⟩ : ∃ n : Nat, b = a + n := ⟨(b - a).toNat, by omega⟩
  rw [tp_add, tp_nat]
  have h1 : (1 : Rat) ≤ ((2 ^ n : Nat) : Rat) := by
    have := Nat.one_le_two_pow (n := n)
    exact_mod_cast this
  have h2 := tp_pos a
  have := Rat.mul_le_mul_of_nonneg_left h1 (Rat.le_of_lt h2)
  grind
theorem tp_lt {a b : Int} (h : a < b) : tp a < tp b := by
  have h1 := tp_le (show a + 1 ≤ b by omega)
  have h2 := tp_pos a
  rw [tp_succ] at h1
  grind
theorem lt_of_tp {a b : Int} (h : tp a < tp b) : a < b := by
  by_cases h1 : a < b
  · exact h1
  · have := tp_le (show b ≤ a by omega); grind
theorem le_of_tp {a b : Int} (h : tp a ≤ tp b) : a ≤ b := by
  by_cases h1 : a ≤ b
  · exact h1
  · have := tp_lt (show b < a by omega); grind
/-- to the nearest multiple of a place that has at least f's digits -/
def RndAt (f : Ieee.Format) (last : Int) (v r : Rat) : Prop := ∃ k : Int, f.leastPlace ≤ last ∧ r = (k : Rat) * tp last ∧ 2 * (r - v) ≤ tp last ∧ 2 * (v - r) ≤ tp last ∧ (last = f.leastPlace ∨ tp (last + f.fractionBits) ≤ v ∨ tp (last + f.fractionBits) ≤ -v)
def Rnd (f : Ieee.Format) (v r : Rat) : Prop := ∃ last, RndAt f last v r
theorem mul_cancel_le {a b c : Rat} (h : 0 < c) (h1 : a * c ≤ b * c) : a ≤ b := Rat.le_of_mul_le_mul_right h1 h
theorem rnd_near {v r t : Rat} {k N : Int} (ht : 0 < t) (hr : r = k * t) (h1 : 2 * (r - v) ≤ t) (hv : v ≤ N * t) : r ≤ N * t := by
  by_cases h : k ≤ N
  · rw [hr]
    exact Rat.mul_le_mul_of_nonneg_right (by exact_mod_cast h) (Rat.le_of_lt ht)
  · exfalso
    have h2 : ((N + 1 : Int) : Rat) ≤ (k : Rat) := by exact_mod_cast (by omega : N + 1 ≤ k)
    have h3 := Rat.mul_le_mul_of_nonneg_right h2 (Rat.le_of_lt ht)
    rw [Rat.intCast_add] at h3
    grind
theorem Rnd.le {f : Ieee.Format} {v r : Rat} (h : Rnd f v r) {z q : Int} (hz : z.natAbs < 2 ^ (f.fractionBits + 1)) (hq : f.leastPlace ≤ q) (hv : v ≤ z * tp q) : r ≤ z * tp q := by
  obtain ⟨last, k, hl, hr, h1, h2, h3⟩ := h
  by_cases hlq : last ≤ q
  · obtain ⟨n, rfl⟩ : ∃ n : Nat, q = last + n := ⟨(q - last).toNat, by omega⟩
    have e : (z : Rat) * tp (last + n) = ((z * (2 ^ n : Nat) : Int) : Rat) * tp last := by
      rw [tp_add, tp_nat, Rat.intCast_mul]
      have : (((2 ^ n : Nat) : Int) : Rat) = ((2 ^ n : Nat) : Rat) := Rat.intCast_natCast _
      rw [this]
      grind
    rw [e] at hv ⊢
    exact rnd_near (tp_pos last) hr h1 hv
  · have hb : tp (q + f.fractionBits + 1) ≤ tp (last + f.fractionBits) := tp_le (by omega)
    have e : tp (q + f.fractionBits + 1) = ((2 ^ (f.fractionBits + 1) : Nat) : Rat) * tp q := by
      rw [show q + (f.fractionBits : Int) + 1 = ((f.fractionBits + 1 : Nat) : Int) + q by omega, tp_add, tp_nat]
    have hq0 := tp_pos q
    have hz1 : (z : Rat) < ((2 ^ (f.fractionBits + 1) : Nat) : Rat) := by
      have : z < ((2 ^ (f.fractionBits + 1) : Nat) : Int) := by omega
      have := Rat.intCast_lt_intCast.2 this
      rwa [Rat.intCast_natCast] at this
    have hz2 : -((2 ^ (f.fractionBits + 1) : Nat) : Rat) < (z : Rat) := by
      have : -((2 ^ (f.fractionBits + 1) : Nat) : Int) < z := by omega
      have := Rat.intCast_lt_intCast.2 this
      rwa [Rat.intCast_neg, Rat.intCast_natCast] at this
    have hz3 := Rat.mul_lt_mul_of_pos_right hz1 hq0
    have hz4 := Rat.mul_lt_mul_of_pos_right hz2 hq0
    rcases h3 with h3 | h3 | h3
    · omega
    · exfalso; grind
    · have e2 : tp (last + f.fractionBits) = ((2 ^ f.fractionBits : Nat) : Rat) * tp last := by
        rw [Int.add_comm, tp_add, tp_nat]
      have := rnd_near (N := -((2 ^ f.fractionBits : Nat) : Int)) (tp_pos last) hr h1 (by rw [Rat.intCast_neg, Rat.intCast_natCast]; grind)
      rw [Rat.intCast_neg, Rat.intCast_natCast] at this
      grind
theorem RndAt.neg {f : Ieee.Format} {last : Int} {v r : Rat} (h : RndAt f last v r) : RndAt f last (-v) (-r) := by
  obtain ⟨k, hl, hr, h1, h2, h3⟩ := h
  refine ⟨-k, hl, by rw [hr, Rat.intCast_neg]; grind, by grind, by grind, by grind⟩
theorem Rnd.neg {f : Ieee.Format} {v r : Rat} (h : Rnd f v r) : Rnd f (-v) (-r) := by
  obtain ⟨last, h⟩ := h
  exact ⟨last, h.neg⟩
theorem Rnd.ge {f : Ieee.Format} {v r : Rat} (h : Rnd f v r) {z q : Int} (hz : z.natAbs < 2 ^ (f.fractionBits + 1)) (hq : f.leastPlace ≤ q) (hv : z * tp q ≤ v) : z * tp q ≤ r := by
  have := h.neg.le (z := -z) (by omega) hq (by rw [Rat.intCast_neg]; grind)
  rw [Rat.intCast_neg] at this
  grind
theorem Rnd.eq {f : Ieee.Format} {v r : Rat} (h : Rnd f v r) {z q : Int} (hz : z.natAbs < 2 ^ (f.fractionBits + 1)) (hq : f.leastPlace ≤ q) (hv : v = z * tp q) : r = v := by
  have h1 := h.le hz hq (by grind)
  have h2 := h.ge hz hq (by grind)
  grind
def sg (s : Bool) : Rat := if s then -1 else 1
/-- The value of a datum. -/
def dv : Ieee.Datum → Rat
  | .number s m p => sg s * ((m : Rat) * tp p)
  | _ => 0
theorem rnd_cut (s : Bool) (m d : Nat) : 2 * (Ieee.Toward.even.cut s m d * 2 ^ d) ≤ 2 * m + 2 ^ d ∧ 2 * m ≤ 2 * (Ieee.Toward.even.cut s m d * 2 ^ d) + 2 ^ d := by
  unfold Ieee.Toward.cut
  simp only [Nat.one_shiftLeft]
  by_cases hd : d ≤ m.log2 + 2
  · rw [Nat.min_eq_left hd]
    have hp := Nat.two_pow_pos d
    have hm1 := Nat.div_add_mod m (2 ^ d)
    have hm2 := Nat.mod_lt m hp
    generalize m % 2 ^ d = rest at *
    generalize m / 2 ^ d = low at *
    generalize 2 ^ d = g at *
    rw [Nat.mul_comm] at hm1
    by_cases h1 : g < 2 * rest
    · have e : (decide (g < 2 * rest) || g == 2 * rest && low % 2 == 1) = true := by simp [h1]
      rw [e, Bool.toNat_true, Nat.add_mul]
      omega
    · by_cases h2 : g = 2 * rest ∧ low % 2 = 1
      · have e : (decide (g < 2 * rest) || g == 2 * rest && low % 2 == 1) = true := by simp [h2.1, h2.2]
        rw [e, Bool.toNat_true, Nat.add_mul]
        omega
      · have e : (decide (g < 2 * rest) || g == 2 * rest && low % 2 == 1) = false := by
          simp only [h1, decide_false, Bool.false_or, Bool.and_eq_false_iff, beq_eq_false_iff_ne]
          omega
        rw [e, Bool.toNat_false, Nat.add_zero]
        omega
  · rw [Nat.min_eq_right (by omega)]
    have h2 : m < 2 ^ (m.log2 + 1) := Nat.lt_log2_self
    have h3 : 2 ^ (m.log2 + 2) = 2 * 2 ^ (m.log2 + 1) := by rw [show m.log2 + 2 = (m.log2 + 1) + 1 by omega, Nat.pow_succ]; omega
    have h4 : 2 ^ (m.log2 + 2) ≤ 2 ^ d := Nat.pow_le_pow_right (by omega) (by omega)
    rw [Nat.div_eq_of_lt (by omega), Nat.mod_eq_of_lt (by omega)]
    have e : (decide (2 ^ (m.log2 + 2) < 2 * m) || 2 ^ (m.log2 + 2) == 2 * m && 0 % 2 == 1) = false := by
      simp; omega
    rw [e]
    simp; omega
theorem infRung_lt' (f : Ieee.Format) : f.infRung + f.binade = f.signWeight := by
  unfold Ieee.Format.infRung Ieee.Format.binade Ieee.Format.signWeight
  rw [Nat.pow_add, Nat.sub_mul, Nat.one_mul]
  have : 1 * 2 ^ f.fractionBits ≤ 2 ^ f.exponentBits * 2 ^ f.fractionBits := Nat.mul_le_mul_right _ (Nat.two_pow_pos _)
  omega
theorem binade_pos' (f : Ieee.Format) : 0 < f.binade := Nat.two_pow_pos _
theorem read_wordR (f : Ieee.Format) (s : Bool) {r : Nat} (h : r < f.signWeight) : f.read (f.word s r) = (if r < f.binade then .number s r f.leastPlace else if r < f.infRung then .number s (f.binade + r % f.binade) (f.leastPlace + (r / f.binade - 1 : Nat)) else if r = f.infRung then .infinity s else .nan s (r - f.infRung)) := by
  have hp : 0 < f.signWeight := by have := infRung_lt' f; have := binade_pos' f; omega
  have e1 : f.word s r % f.signWeight = r := by
    unfold Ieee.Format.word
    split
    · rw [Nat.add_mod_left, Nat.mod_eq_of_lt h]
    · exact Nat.mod_eq_of_lt h
  have e2 : (f.word s r / f.signWeight % 2 == 1) = s := by
    unfold Ieee.Format.word
    cases s
    · simp [Nat.div_eq_of_lt h]
    · simp [Nat.add_div_left _ hp, Nat.div_eq_of_lt h]
  unfold Ieee.Format.read
  simp only [e1, e2]
theorem dv_rung (f : Ieee.Format) (s : Bool) (e k : Nat) (h1 : e = 0 ∨ f.binade ≤ k) (h2 : k ≤ 2 * f.binade) (h3 : e * f.binade + k < f.infRung) :
    isNum (f.read (f.word s (e * f.binade + k))) = true ∧ dv (f.read (f.word s (e * f.binade + k))) = sg s * ((k : Rat) * tp (f.leastPlace + e)) := by
  have hb := binade_pos' f
  have hlt : e * f.binade + k < f.signWeight := by have := infRung_lt' f; omega
  rw [read_wordR f s hlt]
  by_cases h4 : e * f.binade + k < f.binade
  · rw [if_pos h4]
    have he : e = 0 := by
      rcases h1 with h1 | h1
      · exact h1
      · omega
    subst he
    simp [isNum, dv]
  · rw [if_neg h4, if_pos h3]
    refine ⟨rfl, ?_⟩
    by_cases h5 : k < f.binade
    · rcases h1 with h1 | h1
      · subst h1; omega
      · omega
    by_cases h6 : k < 2 * f.binade
    · have e1 : (e * f.binade + k) % f.binade = k - f.binade := by
        rw [show e * f.binade + k = (k - f.binade) + f.binade * (e + 1) by rw [Nat.mul_add, Nat.mul_comm]; omega, Nat.add_mul_mod_self_left]
        exact Nat.mod_eq_of_lt (by omega)
      have e2 : (e * f.binade + k) / f.binade = e + 1 := by
        rw [show e * f.binade + k = (k - f.binade) + f.binade * (e + 1) by rw [Nat.mul_add, Nat.mul_comm]; omega, Nat.add_mul_div_left _ _ hb, Nat.div_eq_of_lt (by omega)]
        omega
      rw [e1, e2]
      unfold dv
      rw [show f.binade + (k - f.binade) = k by omega, show e + 1 - 1 = e by omega]
    · have hk : k = 2 * f.binade := by omega
      subst hk
      have e0 : e * f.binade + 2 * f.binade = f.binade * (e + 2) := by rw [Nat.mul_add, Nat.mul_comm, Nat.mul_comm 2]
      rw [e0, Nat.mul_mod_right, Nat.mul_div_cancel_left _ hb]
      have e3 : tp (f.leastPlace + ((e + 2 - 1 : Nat) : Int)) = 2 * tp (f.leastPlace + e) := by
        rw [← tp_succ]; congr 1; omega
      simp only [dv]
      rw [e3, Nat.add_zero, Rat.natCast_mul]
      have : ((2 : Nat) : Rat) = 2 := rfl
      rw [this]
      grind
theorem abs_sg (s : Bool) (x : Rat) : (sg s * x = x ∧ s = false) ∨ (sg s * x = -x ∧ s = true) := by
  cases s
  · left; simp [sg]
  · right; refine ⟨?_, rfl⟩; simp only [sg]; grind
/-- one above the greatest place of a finite number's first digit -/
def top (f : Ieee.Format) : Int := f.leastPlace + (2 ^ f.exponentBits : Nat) - 2 + f.fractionBits
theorem nearest_at (f : Ieee.Format) (s : Bool) (m : Nat) (p : Int) (h2 : 4 ≤ 2 ^ f.exponentBits) (Q : Int) (hQ : Q < top f) (hv : (m : Rat) * tp p ≤ tp Q) :
    isNum (f.read (f.nearest s m p)) = true ∧ ∃ last, (m ≠ 0 → p + m.log2 - f.fractionBits ≤ last) ∧ RndAt f last (sg s * ((m : Rat) * tp p)) (dv (f.read (f.nearest s m p))) := by
  have hb := binade_pos' f
  by_cases hm : m = 0
  · subst hm
    unfold Ieee.Format.nearest
    rw [if_pos rfl]
    have hinf : 0 < f.infRung := by
      unfold Ieee.Format.infRung
      exact Nat.mul_pos (by omega) hb
    have := dv_rung f s 0 0 (.inl rfl) (by omega) (by omega)
    simp only [Nat.zero_mul, Nat.add_zero] at this
    refine ⟨this.1, ?_⟩
    rw [this.2]
    refine ⟨f.leastPlace, fun h => absurd rfl h, 0, Int.le_refl _, ?_, ?_, ?_, .inl rfl⟩
    · simp
    · have := tp_pos f.leastPlace; simp; grind
    · have := tp_pos f.leastPlace; simp; grind
  unfold Ieee.Format.nearest
  rw [if_neg hm]
  simp only
  obtain ⟨last, hlast⟩ : ∃ last, last = max (p + m.log2 - f.fractionBits) f.leastPlace := ⟨_, rfl⟩
  rw [← hlast]
  obtain ⟨kept, hkept⟩ : ∃ kept, kept = Ieee.Toward.even.cut s (m <<< (p - last).toNat) (last - p).toNat := ⟨_, rfl⟩
  rw [← hkept]
  have hge : f.leastPlace ≤ last := by omega
  obtain ⟨e, he⟩ : ∃ e : Nat, last = f.leastPlace + e := ⟨(last - f.leastPlace).toNat, by omega⟩
  have he' : (last - f.leastPlace).toNat = e := by omega
  rw [he']
  -- near
  have hnear : 2 * ((kept : Rat) * tp last) ≤ 2 * ((m : Rat) * tp p) + tp last ∧ 2 * ((m : Rat) * tp p) ≤ 2 * ((kept : Rat) * tp last) + tp last := by
    by_cases hlp : last ≤ p
    · have e1 : (last - p).toNat = 0 := by omega
      have e2 : kept = m * 2 ^ (p - last).toNat := by
        rw [hkept, e1, Nat.shiftLeft_eq]
        simp [Ieee.Toward.cut, Nat.mod_one]
      obtain ⟨n, hn⟩ : ∃ n : Nat, p = last + n := ⟨(p - last).toNat, by omega⟩
      have e3 : (p - last).toNat = n := by omega
      rw [e3] at e2
      rw [e2, hn, tp_add, tp_nat, Rat.natCast_mul]
      have := tp_pos last
      constructor <;> grind
    · obtain ⟨n, hn⟩ : ∃ n : Nat, last = p + n := ⟨(last - p).toNat, by omega⟩
      have e1 : (p - last).toNat = 0 := by omega
      have e3 : (last - p).toNat = n := by omega
      rw [e1, e3, Nat.shiftLeft_zero] at hkept
      have hc := rnd_cut s m n
      rw [← hkept] at hc
      rw [hn, tp_add, tp_nat]
      have c1 : ((2 * (kept * 2 ^ n) : Nat) : Rat) ≤ ((2 * m + 2 ^ n : Nat) : Rat) := by exact_mod_cast hc.1
      have c2 : ((2 * m : Nat) : Rat) ≤ ((2 * (kept * 2 ^ n) + 2 ^ n : Nat) : Rat) := by exact_mod_cast hc.2
      rw [Rat.natCast_add, Rat.natCast_mul, Rat.natCast_mul, Rat.natCast_mul] at c1 c2
      have hp0 := tp_pos p
      have e2 : ((2 : Nat) : Rat) = 2 := rfl
      rw [e2] at c1 c2
      have d1 := Rat.mul_le_mul_of_nonneg_right c1 (Rat.le_of_lt hp0)
      have d2 := Rat.mul_le_mul_of_nonneg_right c2 (Rat.le_of_lt hp0)
      constructor <;> grind
  have hlow : ((2 ^ m.log2 : Nat) : Rat) ≤ m := by exact_mod_cast Nat.log2_self_le hm
  have hup : (m : Rat) < ((2 ^ (m.log2 + 1) : Nat) : Rat) := by exact_mod_cast Nat.lt_log2_self (n := m)
  have hp0 := tp_pos p
  have hlow' : tp (p + m.log2) ≤ (m : Rat) * tp p := by
    rw [Int.add_comm, tp_add, tp_nat]; exact Rat.mul_le_mul_of_nonneg_right hlow (Rat.le_of_lt hp0)
  have hup' : (m : Rat) * tp p < tp (p + m.log2 + 1) := by
    rw [show p + (m.log2 : Int) + 1 = ((m.log2 + 1 : Nat) : Int) + p by omega, tp_add, tp_nat]; exact Rat.mul_lt_mul_of_pos_right hup hp0
  have hsub : last = f.leastPlace ∨ tp (last + f.fractionBits) ≤ (m : Rat) * tp p := by
    by_cases h : last = f.leastPlace
    · exact .inl h
    · right
      have : last + f.fractionBits = p + m.log2 := by omega
      rw [this]; exact hlow'
  have htop : (m : Rat) * tp p < tp (last + f.fractionBits + 1) := by
    have := tp_le (show p + (m.log2 : Int) + 1 ≤ last + f.fractionBits + 1 by omega)
    grind
  have hl0 := tp_pos last
  have eB : tp (last + f.fractionBits) = (f.binade : Rat) * tp last := by
    rw [Int.add_comm, tp_add, tp_nat]; rfl
  -- kept between
  have hk2 : kept ≤ 2 * f.binade := by
    have h1 := rnd_near (N := ((2 * f.binade : Nat) : Int)) (k := (kept : Int)) (v := (m : Rat) * tp p) (r := (kept : Rat) * tp last) hl0 (by rw [Rat.intCast_natCast]) (by grind) (by
      rw [Rat.intCast_natCast, Rat.natCast_mul]
      rw [tp_succ, eB] at htop
      have e2 : ((2 : Nat) : Rat) = 2 := rfl
      rw [e2]; grind)
    rw [Rat.intCast_natCast] at h1
    have h2 := mul_cancel_le hl0 h1
    exact_mod_cast h2
  have hk1 : e = 0 ∨ f.binade ≤ kept := by
    rcases hsub with h | h
    · left; omega
    · right
      have h1 := rnd_near (N := -(f.binade : Int)) (k := -(kept : Int)) (v := -((m : Rat) * tp p)) (r := -((kept : Rat) * tp last)) hl0 (by rw [Rat.intCast_neg, Rat.intCast_natCast]; grind) (by grind) (by
        rw [Rat.intCast_neg, Rat.intCast_natCast]; grind)
      rw [Rat.intCast_neg, Rat.intCast_natCast] at h1
      have h2 := mul_cancel_le (a := (f.binade : Rat)) (b := (kept : Rat)) hl0 (by grind)
      exact_mod_cast h2
  have hrnd : RndAt f last (sg s * ((m : Rat) * tp p)) (sg s * ((kept : Rat) * tp last)) := by
    rcases abs_sg s ((m : Rat) * tp p) with ⟨e1, e2⟩ | ⟨e1, e2⟩ <;> rcases abs_sg s ((kept : Rat) * tp last) with ⟨e3, e4⟩ | ⟨e3, e4⟩
    · rw [e1, e3]
      exact ⟨kept, hge, by rw [Rat.intCast_natCast], by grind, by grind, by rcases hsub with h | h; exact .inl h; exact .inr (.inl h)⟩
    · rw [e2] at e4; cases e4
    · rw [e2] at e4; cases e4
    · rw [e1, e3]
      exact ⟨-kept, hge, by rw [Rat.intCast_neg, Rat.intCast_natCast]; grind, by grind, by grind, by rcases hsub with h | h; exact .inl h; exact .inr (.inr (by grind))⟩
  -- no overflow
  have hfin : e * f.binade + kept < f.infRung := by
    have eI : f.infRung = (2 ^ f.exponentBits - 1) * f.binade := rfl
    rw [eI]
    obtain ⟨E, hE⟩ : ∃ E, 2 ^ f.exponentBits = E + 2 := ⟨2 ^ f.exponentBits - 2, by omega⟩
    have ht : top f = f.leastPlace + E + f.fractionBits := by unfold top; rw [hE]; omega
    rw [ht] at hQ
    rw [hE, show E + 2 - 1 = E + 1 by omega, Nat.add_mul, Nat.one_mul]
    have hlastQ : last = f.leastPlace ∨ last + f.fractionBits ≤ Q := by
      rcases hsub with h | h
      · exact .inl h
      · right; exact le_of_tp (by grind)
    rcases hlastQ with h | h
    · have he0 : e = 0 := by omega
      subst he0
      rw [Nat.zero_mul]
      have := Nat.mul_le_mul_right f.binade (show 2 ≤ E by omega)
      omega
    · have he1 : (e : Int) ≤ E - 1 := by omega
      have hEe : e + 1 ≤ E := by omega
      have := Nat.mul_le_mul_right f.binade hEe
      rw [Nat.add_mul, Nat.one_mul] at this
      by_cases hk : kept = 2 * f.binade
      · have h1 : (kept : Rat) * tp last ≤ tp Q := by
          have hh := (show Rnd f ((m : Rat) * tp p) ((kept : Rat) * tp last) from ⟨last, kept, hge, by rw [Rat.intCast_natCast], by grind, by grind, by rcases hsub with h | h; exact .inl h; exact .inr (.inl h)⟩)
          have := hh.le (z := 1) (q := Q) (by have := Nat.one_lt_two_pow (n := f.fractionBits + 1) (by omega); simp) (by omega) (by simpa using hv)
          simpa using this
        rw [hk, Rat.natCast_mul] at h1
        have e2 : ((2 : Nat) : Rat) = 2 := rfl
        have h6 : tp (last + f.fractionBits + 1) ≤ tp Q := by rw [tp_succ, eB]; rw [e2] at h1; grind
        have h7 := le_of_tp h6
        have hEe : e + 2 ≤ E := by omega
        have := Nat.mul_le_mul_right f.binade hEe
        rw [Nat.add_mul] at this
        omega
      · omega
  rw [Nat.min_eq_left (by omega)]
  have := dv_rung f s e kept hk1 hk2 hfin
  refine ⟨this.1, ?_⟩
  rw [this.2, ← he]
  exact ⟨last, fun _ => by omega, hrnd⟩
theorem nearest_rnd (f : Ieee.Format) (s : Bool) (m : Nat) (p : Int) (h2 : 4 ≤ 2 ^ f.exponentBits) (Q : Int) (hQ : Q < top f) (hv : (m : Rat) * tp p ≤ tp Q) :
    isNum (f.read (f.nearest s m p)) = true ∧ Rnd f (sg s * ((m : Rat) * tp p)) (dv (f.read (f.nearest s m p))) := by
  obtain ⟨h1, last, _, h⟩ := nearest_at f s m p h2 Q hQ hv
  exact ⟨h1, last, h⟩
/-! words -/
theorem Rnd.zero {f : Ieee.Format} {r : Rat} (h : Rnd f 0 r) : r = 0 := by
  have := h.eq (z := 0) (q := f.leastPlace) (by simp; exact Nat.two_pow_pos _) (Int.le_refl _) (by simp)
  exact this
theorem abs_le_of_sg {s : Bool} {x b : Rat} (h1 : sg s * x ≤ b) (h2 : -(sg s * x) ≤ b) : x ≤ b := by
  rcases abs_sg s x with ⟨e, _⟩ | ⟨e, _⟩ <;> rw [e] at h1 h2 <;> grind
/-- what a datum's word stands for, rounded -/
theorem write_rnd (f : Ieee.Format) (d : Ieee.Datum) (hd : isNum d = true) (h2 : 4 ≤ 2 ^ f.exponentBits) (Q : Int) (hQ : Q < top f) (h3 : dv d ≤ tp Q) (h4 : -dv d ≤ tp Q) : isNum (f.read (f.write d)) = true ∧ Rnd f (dv d) (dv (f.read (f.write d))) := by
  cases d with
  | number s m p =>
    refine nearest_rnd f s m p h2 Q hQ ?_
    exact abs_le_of_sg h3 h4
  | infinity => cases hd
  | nan => cases hd
theorem signed_val (s : Bool) (m n : Nat) : ((Ieee.signed s m n : Int) : Rat) = sg s * ((m : Rat) * tp n) := by
  unfold Ieee.signed
  rw [tp_nat]
  cases s
  · rw [if_neg (by decide), Rat.intCast_natCast, Nat.shiftLeft_eq, Rat.natCast_mul]; simp only [sg]; grind
  · rw [if_pos rfl, Rat.intCast_neg, Rat.intCast_natCast, Nat.shiftLeft_eq, Rat.natCast_mul]; simp only [sg]; grind
theorem sum_val {x y d : Ieee.Datum} (hx : isNum x = true) (hy : isNum y = true) (h : x.sum y = some d) : isNum d = true ∧ dv d = dv x + dv y := by
  cases x with
  | number s m i =>
    cases y with
    | number t n j =>
      simp only [Ieee.Datum.sum, Option.some.injEq] at h
      subst h
      refine ⟨rfl, ?_⟩
      obtain ⟨a, ha⟩ : ∃ a : Nat, i = min i j + a := ⟨(i - min i j).toNat, by omega⟩
      obtain ⟨b, hb⟩ : ∃ b : Nat, j = min i j + b := ⟨(j - min i j).toNat, by omega⟩
      have ea : (i - min i j).toNat = a := by omega
      have eb : (j - min i j).toNat = b := by omega
      rw [ea, eb]
      have hs := signed_val s m a
      have ht := signed_val t n b
      generalize Ieee.signed s m a = A at hs ⊢
      generalize Ieee.signed t n b = B at ht ⊢
      generalize min i j = base at *
      have e1 : dv (.number s m i) = ((A : Int) : Rat) * tp base := by
        rw [hs, ha]; simp only [dv]; rw [tp_add]; grind
      have e2 : dv (.number t n j) = ((B : Int) : Rat) * tp base := by
        rw [ht, hb]; simp only [dv]; rw [tp_add]; grind
      rw [e1, e2]
      simp only [dv]
      have e3 : sg (if A + B = 0 then s && t else decide (A + B < 0)) * (((A + B).natAbs : Nat) : Rat) = ((A + B : Int) : Rat) := by
        by_cases h0 : A + B = 0
        · rw [h0]; simp
        · rw [if_neg h0]
          by_cases h1 : A + B < 0
          · simp only [h1, decide_true, sg, if_true]
            have : ((A + B : Int) : Rat) = -((-(A + B) : Int) : Rat) := by rw [Rat.intCast_neg]; grind
            rw [this]
            have h5 : ((A + B).natAbs : Int) = -(A + B) := by omega
            rw [← h5, Rat.intCast_natCast]; grind
          · simp only [h1, decide_false, sg]
            have h5 : ((A + B).natAbs : Int) = (A + B) := by omega
            rw [← h5, Rat.intCast_natCast]; simp
      rw [← Rat.mul_assoc, e3, Rat.intCast_add]
      grind
    | infinity => cases hy
    | nan => cases hy
  | infinity => cases hx
  | nan => cases hx
theorem sg_xor (s t : Bool) : sg (s ^^ t) = sg s * sg t := by cases s <;> cases t <;> simp [sg] <;> grind
theorem product_val {x y d : Ieee.Datum} (hx : isNum x = true) (hy : isNum y = true) (h : x.product y = some d) : isNum d = true ∧ dv d = dv x * dv y := by
  cases x with
  | number s m i =>
    cases y with
    | number t n j =>
      simp only [Ieee.Datum.product, Option.some.injEq] at h
      subst h
      refine ⟨rfl, ?_⟩
      simp only [dv]
      rw [sg_xor, tp_add, Rat.natCast_mul]
      grind
    | infinity => cases hy
    | nan => cases hy
  | infinity => cases hx
  | nan => cases hx
theorem opposite_val {x : Ieee.Datum} (hx : isNum x = true) : isNum x.opposite = true ∧ dv x.opposite = -dv x := by
  cases x with
  | number s m i => refine ⟨rfl, ?_⟩; cases s <;> simp [Ieee.Datum.opposite, dv, sg] <;> grind
  | infinity => cases hx
  | nan => cases hx
/-- A number just above or just below: it is rounded as the one that tells so by its last digit. -/
theorem sticky (f : Ieee.Format) {last place : Int} {q : Nat} {st : Bool} {v r : Rat} (h : RndAt f last (((2 * q + st.toNat : Nat) : Rat) * tp place) r) (hl : place + 2 ≤ last)
    (hv : if st then ((2 * q : Nat) : Rat) * tp place < v ∧ v < ((2 * q + 2 : Nat) : Rat) * tp place else v = ((2 * q : Nat) : Rat) * tp place) : RndAt f last v r := by
  cases st with
  | false =>
    simp only [Bool.toNat_false, Nat.add_zero] at h
    simp only [Bool.false_eq_true, if_false] at hv
    rw [hv]; exact h
  | true =>
    simp only [Bool.toNat_true] at h
    simp only [if_true] at hv
    obtain ⟨k, h0, hr, h1, h2, h3⟩ := h
    obtain ⟨n, hn⟩ : ∃ n : Nat, last = place + 2 + n := ⟨(last - place - 2).toNat, by omega⟩
    have et : tp last = ((4 * 2 ^ n : Nat) : Rat) * tp place := by
      rw [hn, Int.add_assoc, Int.add_comm, tp_add, show (2 : Int) + (n : Int) = ((n + 2 : Nat) : Int) by omega, tp_nat, Nat.pow_add]
      congr 2; omega
    have hp := tp_pos place
    obtain ⟨g, hg⟩ : ∃ g : Nat, g = 2 ^ n := ⟨_, rfl⟩
    rw [← hg] at et
    -- in units of the place
    have et1 : tp last = 4 * (g : Rat) * tp place := by rw [et]; push_cast; grind
    have a1 : ((8 * (k * g) - 2 * (2 * q + 1) : Int) : Rat) ≤ ((4 * g : Int) : Rat) := by
      refine mul_cancel_le hp ?_
      rw [hr, et1] at h1
      push_cast at h1 ⊢
      grind
    have a2 : ((2 * (2 * q + 1) - 8 * (k * g) : Int) : Rat) ≤ ((4 * g : Int) : Rat) := by
      refine mul_cancel_le hp ?_
      rw [hr, et1] at h2
      push_cast at h2 ⊢
      grind
    obtain ⟨K, hK⟩ : ∃ K : Int, K = k * g := ⟨_, rfl⟩
    rw [← hK] at a1 a2
    have a1' : 8 * K - 2 * (2 * q + 1) ≤ 4 * (g : Int) := by exact_mod_cast a1
    have a2' : 2 * (2 * q + 1) - 8 * K ≤ 4 * (g : Int) := by exact_mod_cast a2
    -- 2q+1 is odd
    have b1 : 4 * K - 2 * g ≤ 2 * (q : Int) := by omega
    have b2 : (2 * q + 2 : Int) ≤ 4 * K + 2 * g := by omega
    have c1 : ((4 * K - 2 * g : Int) : Rat) ≤ ((2 * q : Int) : Rat) := by exact_mod_cast b1
    have c2 : ((2 * q + 2 : Int) : Rat) ≤ ((4 * K + 2 * g : Int) : Rat) := by exact_mod_cast b2
    have d1 := Rat.mul_le_mul_of_nonneg_right c1 (Rat.le_of_lt hp)
    have d2 := Rat.mul_le_mul_of_nonneg_right c2 (Rat.le_of_lt hp)
    have er : r = 4 * ((K : Int) : Rat) * tp place := by
      rw [hr, et1, hK]; push_cast; grind
    push_cast at d1 d2 hv
    have f1 : 2 * (r - v) ≤ tp last := by
      rw [er, et1]
      grind
    have f2 : 2 * (v - r) ≤ tp last := by
      rw [er, et1]
      grind
    refine ⟨k, h0, hr, f1, f2, ?_⟩
    rcases h3 with h3 | h3 | h3
    · exact .inl h3
    · right; left
      have e5 : tp (last + f.fractionBits) = ((2 * (2 * g * 2 ^ f.fractionBits) : Nat) : Rat) * tp place := by
        rw [Int.add_comm, tp_add, tp_nat, et1]; push_cast; grind
      rw [e5] at h3 ⊢
      generalize 2 * g * 2 ^ f.fractionBits = X at h3 ⊢
      have h4 := mul_cancel_le hp h3
      have h5 : 2 * X ≤ 2 * q + 1 := by exact_mod_cast h4
      have h6 : ((2 * X : Nat) : Rat) ≤ ((2 * q : Nat) : Rat) := by exact_mod_cast (show 2 * X ≤ 2 * q by omega)
      have := Rat.mul_le_mul_of_nonneg_right h6 (Rat.le_of_lt hp)
      push_cast at this ⊢
      grind
    · exfalso
      have h4 := tp_pos (last + f.fractionBits)
      have h5 : (0 : Rat) ≤ ((2 * q + 1 : Nat) : Rat) := by exact_mod_cast Nat.zero_le _
      have h6 := Rat.mul_nonneg h5 (Rat.le_of_lt hp)
      grind
theorem sg_ne (s : Bool) : sg s * sg s = 1 := by cases s <;> simp [sg] <;> grind
theorem dv_zero {s : Bool} {n : Nat} {j : Int} (h : dv (.number s n j) ≠ 0) : n ≠ 0 := by
  rintro rfl
  apply h
  simp [dv]
theorem div_rnd (f : Ieee.Format) {x y d : Ieee.Datum} (hx : isNum x = true) (hy : isNum y = true) (h0 : dv y ≠ 0) (h2 : 4 ≤ 2 ^ f.exponentBits) (h : x.quotient (f.fractionBits + 2) y = some d) (Q : Int) (hQ : Q < top f)
    (h3 : dv x / dv y ≤ tp Q) (h4 : -(dv x / dv y) ≤ tp Q) : isNum (f.read (f.write d)) = true ∧ Rnd f (dv x / dv y) (dv (f.read (f.write d))) := by
  cases x with
  | number s m i =>
    cases y with
    | number t n j =>
      have hn : n ≠ 0 := dv_zero h0
      simp only [Ieee.Datum.quotient, if_neg hn, Option.some.injEq] at h
      obtain ⟨more, hmore⟩ : ∃ more, more = f.fractionBits + 2 + n.log2 - m.log2 := ⟨_, rfl⟩
      rw [← hmore, Nat.shiftLeft_eq] at h
      obtain ⟨D, hD⟩ : ∃ D, D = m * 2 ^ more := ⟨_, rfl⟩
      rw [← hD] at h
      obtain ⟨q, hq⟩ : ∃ q, q = D / n := ⟨_, rfl⟩
      obtain ⟨r, hr⟩ : ∃ r, r = D % n := ⟨_, rfl⟩
      rw [← hq, ← hr] at h
      have hdm := Nat.div_add_mod D n
      rw [← hq, ← hr] at hdm
      have hrn : r < n := by rw [hr]; exact Nat.mod_lt _ (by omega)
      obtain ⟨place, hpl⟩ : ∃ place, place = i - j - more - 1 := ⟨_, rfl⟩
      rw [← hpl] at h
      have hu := tp_pos place
      have hj := tp_pos j
      have hn0 : (0 : Rat) < n := by exact_mod_cast (show 0 < n by omega)
      -- the value
      obtain ⟨V, hV⟩ : ∃ V : Rat, V = (m : Rat) * tp (i - j) / n := ⟨_, rfl⟩
      have hVm : V * n = (m : Rat) * tp (i - j) := by rw [hV]; grind
      have hVn : V * n = 2 * (D : Rat) * tp place := by
        rw [hVm, show i - j = ((more : Nat) : Int) + 1 + place by omega, tp_add, tp_succ, tp_nat, hD]
        push_cast
        grind
      have e2 : tp i = tp (i - j) * tp j := by rw [← tp_add]; congr 1; omega
      have hst := sg_ne t
      have hval : dv (.number s m i) / dv (.number t n j) = sg (s ^^ t) * V := by
        rw [sg_xor, hV]
        simp only [dv]
        rw [e2]
        have h5 : sg t ≠ 0 := by intro h; rw [h] at hst; grind
        grind
      have hV0 : 0 ≤ V := by
        rw [hV]
        have := Rat.mul_nonneg (show (0 : Rat) ≤ m by exact_mod_cast Nat.zero_le m) (Rat.le_of_lt (tp_pos (i - j)))
        refine Rat.le_of_mul_le_mul_right (c := (n : Rat)) ?_ hn0
        rw [Rat.zero_mul, ← hV, hVm]
        exact this
      rw [hval] at h3 h4 ⊢
      have hVQ := abs_le_of_sg h3 h4
      have hDq : (D : Rat) = (n : Rat) * q + r := by exact_mod_cast hdm.symm
      -- the sticky digit
      have hcase : if (r != 0) = true then ((2 * q : Nat) : Rat) * tp place < V ∧ V < ((2 * q + 2 : Nat) : Rat) * tp place else V = ((2 * q : Nat) : Rat) * tp place := by
        by_cases hr0 : r = 0
        · subst hr0
          rw [if_neg (by simp)]
          rw [hDq] at hVn
          push_cast at hVn ⊢
          have : (V - 2 * q * tp place) * n = 0 := by grind
          have := Rat.mul_eq_zero.1 this
          grind
        · rw [if_pos (by simpa using hr0)]
          have hr1 : (0 : Rat) < r := by exact_mod_cast (show 0 < r by omega)
          have hr2 : (r : Rat) < n := by exact_mod_cast hrn
          have k1 := Rat.mul_lt_mul_of_pos_right hr1 hu
          have k2 := Rat.mul_lt_mul_of_pos_right hr2 hu
          rw [hDq] at hVn
          push_cast
          constructor
          · exact Rat.lt_of_mul_lt_mul_right (c := (n : Rat)) (by grind) (Rat.le_of_lt hn0)
          · exact Rat.lt_of_mul_lt_mul_right (c := (n : Rat)) (by grind) (Rat.le_of_lt hn0)
      have hst0 : (r != 0).toNat ≤ 1 := by cases (r != 0) <;> simp
      by_cases hm : m = 0
      · have hD0 : D = 0 := by rw [hD, hm, Nat.zero_mul]
        have hq0 : q = 0 := by rw [hq, hD0, Nat.zero_div]
        have hr0 : r = 0 := by rw [hr, hD0, Nat.zero_mod]
        subst hq0
        subst hr0
        simp at h
        subst h
        have := write_rnd f (.number (s ^^ t) 0 place) rfl h2 Q hQ (by simp [dv]; exact Rat.le_of_lt (tp_pos Q)) (by simp [dv]; exact Rat.le_of_lt (tp_pos Q))
        refine ⟨this.1, ?_⟩
        have hz : V = 0 := by simpa using hcase
        rw [hz]
        have h6 := this.2
        simpa [dv] using h6
      -- enough digits
      have hqb : 2 ^ (f.fractionBits + 1) ≤ q := by
        by_cases hlt : 2 ^ (f.fractionBits + 1) ≤ q
        · exact hlt
        · exfalso
          have a1 : q + 1 ≤ 2 ^ (f.fractionBits + 1) := by omega
          have a2 : (q + 1) * n ≤ 2 ^ (f.fractionBits + 1) * n := Nat.mul_le_mul_right _ a1
          have a3 : n < 2 ^ (n.log2 + 1) := Nat.lt_log2_self
          have a4 : 2 ^ (f.fractionBits + 1) * n < 2 ^ (f.fractionBits + 1) * 2 ^ (n.log2 + 1) := Nat.mul_lt_mul_of_pos_left a3 (Nat.two_pow_pos _)
          rw [← Nat.pow_add] at a4
          have a5 : 2 ^ m.log2 ≤ m := Nat.log2_self_le hm
          have a6 : 2 ^ m.log2 * 2 ^ more ≤ D := by rw [hD]; exact Nat.mul_le_mul_right _ a5
          rw [← Nat.pow_add] at a6
          have a7 : 2 ^ (f.fractionBits + 1 + (n.log2 + 1)) ≤ 2 ^ (m.log2 + more) := Nat.pow_le_pow_right (by omega) (by omega)
          rw [Nat.add_mul, Nat.one_mul, Nat.mul_comm] at a2
          omega
      have hnum : 2 * q + (r != 0).toNat ≠ 0 := by have := Nat.two_pow_pos (f.fractionBits + 1); omega
      have hlog : f.fractionBits + 2 ≤ (2 * q + (r != 0).toNat).log2 := by
        rw [Nat.le_log2 hnum, Nat.pow_succ]
        omega
      subst h
      -- bound of the told number
      have hQ2 : ((2 * q + (r != 0).toNat : Nat) : Rat) * tp place ≤ tp Q := by
        by_cases hr0 : (r != 0) = true
        · rw [if_pos hr0] at hcase
          have hpq : place < Q := by
            refine lt_of_tp ?_
            have : (1 : Rat) ≤ ((2 * q : Nat) : Rat) := by exact_mod_cast (show 1 ≤ 2 * q by have := Nat.two_pow_pos (f.fractionBits + 1); omega)
            have := Rat.mul_le_mul_of_nonneg_right this (Rat.le_of_lt hu)
            grind
          obtain ⟨e, he⟩ : ∃ e : Nat, Q = e + place := ⟨(Q - place).toNat, by omega⟩
          have e5 : tp Q = ((2 ^ e : Nat) : Rat) * tp place := by rw [he, tp_add, tp_nat]
          rw [e5] at hVQ ⊢
          have h7 : ((2 * q : Nat) : Rat) * tp place < ((2 ^ e : Nat) : Rat) * tp place := by grind
          have h8 := Rat.lt_of_mul_lt_mul_right h7 (Rat.le_of_lt hu)
          have h9 : 2 * q < 2 ^ e := by exact_mod_cast h8
          rw [hr0, Bool.toNat_true]
          exact Rat.mul_le_mul_of_nonneg_right (by exact_mod_cast (show 2 * q + 1 ≤ 2 ^ e by omega)) (Rat.le_of_lt hu)
        · rw [if_neg hr0] at hcase
          have hr1 : (r != 0) = false := by simpa using hr0
          rw [hr1, Bool.toNat_false, Nat.add_zero, ← hcase]
          exact hVQ
      obtain ⟨g1, last, g2, g3⟩ := nearest_at f (s ^^ t) (2 * q + (r != 0).toNat) place h2 Q hQ hQ2
      refine ⟨g1, last, ?_⟩
      have g2' := g2 hnum
      have hpl2 : place + 2 ≤ last := by omega
      show RndAt f last (sg (s ^^ t) * V) (dv (f.read (f.nearest (s ^^ t) (2 * q + (r != 0).toNat) place)))
      rcases hs : (s ^^ t)
      · rw [hs] at g3
        have e1 : ∀ z : Rat, sg false * z = z := fun z => by simp [sg]
        rw [e1] at g3 ⊢
        exact sticky f g3 hpl2 hcase
      · rw [hs] at g3
        have e1 : ∀ z : Rat, sg true * z = -z := fun z => by simp only [sg]; grind
        rw [e1] at g3 ⊢
        have g4 := g3.neg
        rw [Rat.neg_neg] at g4
        have g5 := (sticky f g4 hpl2 hcase).neg
        rwa [Rat.neg_neg] at g5
    | infinity => cases hy
    | nan => cases hy
  | infinity => cases hx
  | nan => cases hx
end Go.Proofs.Ytpnkapdemgieaaa
set_option linter.unusedSimpArgs false
set_option linter.unusedVariables false
set_option linter.unusedSectionVars false
namespace Go.Proofs.Ytpnkapdemgieaaa
open Go Go.RowKit
/-- A finite word. -/
def fnt (k : FloatKind) (x : Nat) : Bool := isNum (k.format.read x)
/-- Its value. -/
def fv (k : FloatKind) (x : Nat) : Rat := dv (k.format.read x)
theorem fmt_exp (k : FloatKind) : 4 ≤ 2 ^ k.format.exponentBits := by cases k <;> decide
def topK : FloatKind → Int
  | .f32 => 128
  | .f64 => 1024
def lowK : FloatKind → Int
  | .f32 => -149
  | .f64 => -1074
def digK : FloatKind → Nat
  | .f32 => 23
  | .f64 => 52
theorem top_eq (k : FloatKind) : top k.format = topK k := by cases k <;> decide
theorem low_eq (k : FloatKind) : k.format.leastPlace = lowK k := by cases k <;> decide
theorem dig_eq (k : FloatKind) : k.format.fractionBits = digK k := by cases k <;> rfl
/-- The exact operation. -/
def ex (op : BinOp) (a b : Rat) : Rat := match op with | .add => a + b | .sub => a - b | .mul => a * b | .quo => a / b | _ => 0
theorem fop_rnd (op : BinOp) (hop : arithOp op = true) (k : FloatKind) {x y : Nat} (hx : fnt k x = true) (hy : fnt k y = true) (h0 : op = .quo → fv k y ≠ 0) (Q : Int) (hQ : Q < topK k) (h1 : ex op (fv k x) (fv k y) ≤ tp Q) (h2 : -ex op (fv k x) (fv k y) ≤ tp Q) :
    fnt k (fop op k x y) = true ∧ Rnd k.format (ex op (fv k x) (fv k y)) (fv k (fop op k x y)) := by
  have hQ' : Q < top k.format := by rw [top_eq]; exact hQ
  have he := fmt_exp k
  unfold fnt at hx hy
  unfold fv at h0 h1 h2 ⊢
  unfold fnt fop
  cases op <;> simp [arithOp] at hop
  · -- add
    have h : ∃ d, (k.format.read x).sum (k.format.read y) = some d := by
      cases h3 : k.format.read x <;> rw [h3] at hx <;> first | cases hx | skip
      cases h4 : k.format.read y <;> rw [h4] at hy <;> first | cases hy | skip
      exact ⟨_, rfl⟩
    obtain ⟨d, hd⟩ := h
    have hb : floatBits .add k x y = some (k.format.write d) := by simp [floatBits, Ieee.Format.add, hd]
    rw [hb, Option.getD_some]
    obtain ⟨g1, g2⟩ := sum_val hx hy hd
    have e : ex .add (dv (k.format.read x)) (dv (k.format.read y)) = dv d := g2.symm
    rw [e] at h1 h2 ⊢
    exact write_rnd k.format d g1 he Q hQ' h1 h2
  · -- sub
    have hy' := opposite_val hy
    have h : ∃ d, (k.format.read x).sum (k.format.read y).opposite = some d := by
      cases h3 : k.format.read x <;> rw [h3] at hx <;> first | cases hx | skip
      cases h4 : k.format.read y <;> rw [h4] at hy <;> first | cases hy | skip
      exact ⟨_, rfl⟩
    obtain ⟨d, hd⟩ := h
    have hb : floatBits .sub k x y = some (k.format.write d) := by simp [floatBits, Ieee.Format.sub, hd]
    rw [hb, Option.getD_some]
    obtain ⟨g1, g2⟩ := sum_val hx hy'.1 hd
    have e : ex .sub (dv (k.format.read x)) (dv (k.format.read y)) = dv d := by rw [g2, hy'.2, ex, Rat.sub_eq_add_neg]
    rw [e] at h1 h2 ⊢
    exact write_rnd k.format d g1 he Q hQ' h1 h2
  · -- mul
    have h : ∃ d, (k.format.read x).product (k.format.read y) = some d := by
      cases h3 : k.format.read x <;> rw [h3] at hx <;> first | cases hx | skip
      cases h4 : k.format.read y <;> rw [h4] at hy <;> first | cases hy | skip
      exact ⟨_, rfl⟩
    obtain ⟨d, hd⟩ := h
    have hb : floatBits .mul k x y = some (k.format.write d) := by simp [floatBits, Ieee.Format.mul, hd]
    rw [hb, Option.getD_some]
    obtain ⟨g1, g2⟩ := product_val hx hy hd
    have e : ex .mul (dv (k.format.read x)) (dv (k.format.read y)) = dv d := g2.symm
    rw [e] at h1 h2 ⊢
    exact write_rnd k.format d g1 he Q hQ' h1 h2
  · -- quo
    have hn0 := h0 rfl
    have h : ∃ d, (k.format.read x).quotient (k.format.fractionBits + 2) (k.format.read y) = some d := by
      cases h3 : k.format.read x <;> rw [h3] at hx <;> first | cases hx | skip
      cases h4 : k.format.read y <;> rw [h4] at hy <;> first | cases hy | skip
      rw [h4] at hn0
      have hnz := dv_zero hn0
      exact ⟨_, by simp only [Ieee.Datum.quotient, if_neg hnz]; rfl⟩
    obtain ⟨d, hd⟩ := h
    have hb : floatBits .quo k x y = some (k.format.write d) := by simp [floatBits, Ieee.Format.div, hd]
    rw [hb, Option.getD_some]
    exact div_rnd k.format hx hy hn0 he hd Q hQ' h1 h2
/-- A number that a format has. -/
def Rep (k : FloatKind) (c : Rat) : Prop := (∃ z q : Int, z.natAbs < 2 ^ (digK k + 1) ∧ lowK k ≤ q ∧ c = z * tp q) ∧ c ≤ tp (topK k - 1) ∧ -c ≤ tp (topK k - 1)
theorem Rnd.rep_le {k : FloatKind} {v r c : Rat} (h : Rnd k.format v r) (hc : Rep k c) (hv : v ≤ c) : r ≤ c := by
  obtain ⟨⟨z, q, h1, h2, rfl⟩, _⟩ := hc
  exact h.le (by rw [dig_eq]; exact h1) (by rw [low_eq]; exact h2) hv
theorem Rnd.rep_ge {k : FloatKind} {v r c : Rat} (h : Rnd k.format v r) (hc : Rep k c) (hv : c ≤ v) : c ≤ r := by
  obtain ⟨⟨z, q, h1, h2, rfl⟩, _⟩ := hc
  exact h.ge (by rw [dig_eq]; exact h1) (by rw [low_eq]; exact h2) hv
theorem Rep.neg {k : FloatKind} {c : Rat} (h : Rep k c) : Rep k (-c) := by
  obtain ⟨⟨z, q, h1, h2, rfl⟩, h3, h4⟩ := h
  exact ⟨⟨-z, q, by omega, h2, by rw [Rat.intCast_neg]; grind⟩, h4, by rw [Rat.neg_neg]; exact h3⟩
theorem Rep.int {k : FloatKind} (z : Int) (h : z.natAbs < 2 ^ (digK k + 1)) : Rep k (z : Rat) := by
  have h1 : (z : Rat) ≤ ((2 ^ (digK k + 1) : Nat) : Rat) := by
    have : z ≤ ((2 ^ (digK k + 1) : Nat) : Int) := by omega
    exact_mod_cast this
  have h2 : -(z : Rat) ≤ ((2 ^ (digK k + 1) : Nat) : Rat) := by
    have : -z ≤ ((2 ^ (digK k + 1) : Nat) : Int) := by omega
    exact_mod_cast this
  have h3 : ((2 ^ (digK k + 1) : Nat) : Rat) ≤ tp (topK k - 1) := by rw [← tp_nat]; exact tp_le (by cases k <;> decide)
  exact ⟨⟨z, 0, h, by cases k <;> decide, by rw [tp_zero, Rat.mul_one]⟩, Rat.le_trans h1 h3, Rat.le_trans h2 h3⟩
theorem Rep.tp {k : FloatKind} (q : Int) (h1 : lowK k ≤ q) (h2 : q < topK k) : Rep k (tp q) := by
  have h3 := tp_pos q
  have h4 := tp_pos (topK k - 1)
  exact ⟨⟨1, q, by cases k <;> decide, h1, by simp⟩, tp_le (by omega), by grind⟩
theorem Rep.mul_tp {k : FloatKind} (z q : Int) (h : z.natAbs < 2 ^ (digK k + 1)) (h1 : lowK k ≤ q) (h2 : q + digK k + 1 < topK k) : Rep k (z * Go.Proofs.Ytpnkapdemgieaaa.tp q) := by
  have hq := tp_pos q
  have e : ((2 ^ (digK k + 1) : Nat) : Rat) * Go.Proofs.Ytpnkapdemgieaaa.tp q ≤ Go.Proofs.Ytpnkapdemgieaaa.tp (topK k - 1) := by
    rw [← tp_nat, ← tp_add]; exact tp_le (by omega)
  have a1 : (z : Rat) ≤ ((2 ^ (digK k + 1) : Nat) : Rat) := by
    have : z ≤ ((2 ^ (digK k + 1) : Nat) : Int) := by omega
    exact_mod_cast this
  have a2 : -(z : Rat) ≤ ((2 ^ (digK k + 1) : Nat) : Rat) := by
    have : -z ≤ ((2 ^ (digK k + 1) : Nat) : Int) := by omega
    exact_mod_cast this
  have b1 := Rat.mul_le_mul_of_nonneg_right a1 (Rat.le_of_lt hq)
  have b2 := Rat.mul_le_mul_of_nonneg_right a2 (Rat.le_of_lt hq)
  exact ⟨⟨z, q, h, h1, rfl⟩, by grind, by grind⟩
/-- Between two numbers. -/
def Btw (k : FloatKind) (x : Nat) (a b : Rat) : Prop := fnt k x = true ∧ a ≤ fv k x ∧ fv k x ≤ b
theorem fop_btw (op : BinOp) (hop : arithOp op = true) (k : FloatKind) {x y : Nat} {a b : Rat} (hx : fnt k x = true) (hy : fnt k y = true) (h0 : op = .quo → fv k y ≠ 0) (ha : Rep k a) (hb : Rep k b) (h1 : a ≤ ex op (fv k x) (fv k y)) (h2 : ex op (fv k x) (fv k y) ≤ b) : Btw k (fop op k x y) a b := by
  have h3 := ha.2.2
  have h4 := hb.2.1
  obtain ⟨g1, g2⟩ := fop_rnd op hop k hx hy h0 (topK k - 1) (by omega) (by grind) (by grind)
  exact ⟨g1, g2.rep_ge ha h1, g2.rep_le hb h2⟩
/-- At most so great. -/
def Bnd (k : FloatKind) (x : Nat) (b : Rat) : Prop := fnt k x = true ∧ -b ≤ fv k x ∧ fv k x ≤ b
theorem Bnd.btw {k : FloatKind} {x : Nat} {b : Rat} (h : Btw k x (-b) b) : Bnd k x b := h
theorem Bnd.mono {k : FloatKind} {x : Nat} {b c : Rat} (h : Bnd k x b) (hc : b ≤ c) : Bnd k x c := ⟨h.1, by have := h.2.1; grind, by have := h.2.2; grind⟩
theorem Bnd.nonneg {k : FloatKind} {x : Nat} {b : Rat} (h : Bnd k x b) : 0 ≤ b := by have := h.2.1; have := h.2.2; grind
theorem mul_bd {a b x y : Rat} (h1 : -a ≤ x) (h2 : x ≤ a) (h3 : -b ≤ y) (h4 : y ≤ b) : -(a * b) ≤ x * y ∧ x * y ≤ a * b := by
  have p1 := Rat.mul_nonneg (show 0 ≤ a - x by grind) (show 0 ≤ b - y by grind)
  have p2 := Rat.mul_nonneg (show 0 ≤ a + x by grind) (show 0 ≤ b + y by grind)
  have p3 := Rat.mul_nonneg (show 0 ≤ a - x by grind) (show 0 ≤ b + y by grind)
  have p4 := Rat.mul_nonneg (show 0 ≤ a + x by grind) (show 0 ≤ b - y by grind)
  constructor <;> grind
theorem Bnd.mul {k : FloatKind} {x y : Nat} {a b c : Rat} (hx : Bnd k x a) (hy : Bnd k y b) (hc : Rep k c) (h : a * b ≤ c) : Bnd k (fop .mul k x y) c := by
  have := mul_bd hx.2.1 hx.2.2 hy.2.1 hy.2.2
  exact Bnd.btw (fop_btw .mul rfl k hx.1 hy.1 (by simp) hc.neg hc (by simp only [ex]; grind) (by simp only [ex]; grind))
theorem Bnd.add {k : FloatKind} {x y : Nat} {a b c : Rat} (hx : Bnd k x a) (hy : Bnd k y b) (hc : Rep k c) (h : a + b ≤ c) : Bnd k (fop .add k x y) c := by
  have h1 := hx.2; have h2 := hy.2
  exact Bnd.btw (fop_btw .add rfl k hx.1 hy.1 (by simp) hc.neg hc (by simp only [ex]; grind) (by simp only [ex]; grind))
theorem Bnd.sub {k : FloatKind} {x y : Nat} {a b c : Rat} (hx : Bnd k x a) (hy : Bnd k y b) (hc : Rep k c) (h : a + b ≤ c) : Bnd k (fop .sub k x y) c := by
  have h1 := hx.2; have h2 := hy.2
  exact Bnd.btw (fop_btw .sub rfl k hx.1 hy.1 (by simp) hc.neg hc (by simp only [ex]; grind) (by simp only [ex]; grind))
/-- By a number that is at least d. -/
theorem Bnd.div {k : FloatKind} {x y : Nat} {a c d : Rat} (hx : Bnd k x a) (hy : fnt k y = true) (hd : 0 < d) (hyd : d ≤ fv k y) (hc : Rep k c) (h : a ≤ c * d) : Bnd k (fop .quo k x y) c := by
  have h1 := hx.2
  have hy0 : 0 < fv k y := by grind
  have hne : fv k y ≠ 0 := by grind
  have e : fv k x / fv k y * fv k y = fv k x := by grind
  have hc0 : 0 ≤ c := by
    have := hx.nonneg
    by_cases h0 : 0 ≤ c
    · exact h0
    · have := Rat.mul_pos (show 0 < -c by grind) hd
      grind
  have h2 := Rat.mul_le_mul_of_nonneg_left hyd hc0
  exact Bnd.btw (fop_btw .quo rfl k hx.1 hy (fun _ => hne) hc.neg hc
    (by simp only [ex]; exact Rat.le_of_mul_le_mul_right (c := fv k y) (by grind) hy0)
    (by simp only [ex]; exact Rat.le_of_mul_le_mul_right (c := fv k y) (by grind) hy0))
/-! ### Order -/
theorem ordv (k : FloatKind) {x y : Nat} (hx : fnt k x = true) (hy : fnt k y = true) : (k.format.order x y = some .lt ∧ fv k x < fv k y) ∨ (k.format.order x y = some .eq ∧ fv k x = fv k y) ∨ (k.format.order x y = some .gt ∧ fv k y < fv k x) := by
  unfold fnt at hx hy
  unfold fv Ieee.Format.order
  cases h3 : k.format.read x with
  | number s m i =>
    cases h4 : k.format.read y with
    | number t n j =>
      simp only [Ieee.Datum.order]
      obtain ⟨a, ha⟩ : ∃ a : Nat, i = min i j + a := ⟨(i - min i j).toNat, by omega⟩
      obtain ⟨b, hb⟩ : ∃ b : Nat, j = min i j + b := ⟨(j - min i j).toNat, by omega⟩
      have ea : (i - min i j).toNat = a := by omega
      have eb : (j - min i j).toNat = b := by omega
      rw [ea, eb]
      have hs := signed_val s m a
      have ht := signed_val t n b
      generalize Ieee.signed s m a = A at hs ⊢
      generalize Ieee.signed t n b = B at ht ⊢
      generalize min i j = base at *
      have hp := tp_pos base
      have e1 : dv (.number s m i) = ((A : Int) : Rat) * tp base := by
        rw [hs, ha]; simp only [dv]; rw [tp_add]; grind
      have e2 : dv (.number t n j) = ((B : Int) : Rat) * tp base := by
        rw [ht, hb]; simp only [dv]; rw [tp_add]; grind
      rw [e1, e2]
      rcases Int.lt_trichotomy A B with h | h | h
      · left
        refine ⟨by rw [Int.compare_eq_lt.2 h], ?_⟩
        exact Rat.mul_lt_mul_of_pos_right (by exact_mod_cast h) hp
      · right; left
        subst h
        exact ⟨by rw [Int.compare_eq_eq.2 rfl], rfl⟩
      · right; right
        refine ⟨by rw [Int.compare_eq_gt.2 h], ?_⟩
        exact Rat.mul_lt_mul_of_pos_right (by exact_mod_cast h) hp
    | infinity => rw [h4] at hy; cases hy
    | nan => rw [h4] at hy; cases hy
  | infinity => rw [h3] at hx; cases hx
  | nan => rw [h3] at hx; cases hx
theorem fltv {k : FloatKind} {x y : Nat} (hx : fnt k x = true) (hy : fnt k y = true) : flt k x y = decide (fv k x < fv k y) := by
  unfold flt
  rcases ordv k hx hy with ⟨h, h'⟩ | ⟨h, h'⟩ | ⟨h, h'⟩ <;> rw [h]
  · simp [h']
  · rw [h']; simp [Rat.lt_irrefl]
  · have : ¬ fv k x < fv k y := by grind
    simp [this]
theorem flev {k : FloatKind} {x y : Nat} (hx : fnt k x = true) (hy : fnt k y = true) : fle k x y = decide (fv k x ≤ fv k y) := by
  unfold fle
  rcases ordv k hx hy with ⟨h, h'⟩ | ⟨h, h'⟩ | ⟨h, h'⟩ <;> rw [h]
  · have : fv k x ≤ fv k y := by grind
    simp [this]
  · rw [h']; simp [Rat.le_refl]
  · have : ¬ fv k x ≤ fv k y := by grind
    simp [this]
theorem fgtv {k : FloatKind} {x y : Nat} (hx : fnt k x = true) (hy : fnt k y = true) : fgt k x y = decide (fv k y < fv k x) := by
  unfold fgt
  rcases ordv k hx hy with ⟨h, h'⟩ | ⟨h, h'⟩ | ⟨h, h'⟩ <;> rw [h]
  · have : ¬ fv k y < fv k x := by grind
    simp [this]
  · rw [h']; simp [Rat.lt_irrefl]
  · simp [h']
theorem fgev {k : FloatKind} {x y : Nat} (hx : fnt k x = true) (hy : fnt k y = true) : fge k x y = decide (fv k y ≤ fv k x) := by
  unfold fge
  rcases ordv k hx hy with ⟨h, h'⟩ | ⟨h, h'⟩ | ⟨h, h'⟩ <;> rw [h]
  · have : ¬ fv k y ≤ fv k x := by grind
    simp [this]
  · rw [h']; simp [Rat.le_refl]
  · have : fv k y ≤ fv k x := by grind
    simp [this]
theorem feqv {k : FloatKind} {x y : Nat} (hx : fnt k x = true) (hy : fnt k y = true) : feq k x y = decide (fv k x = fv k y) := by
  unfold feq
  rcases ordv k hx hy with ⟨h, h'⟩ | ⟨h, h'⟩ | ⟨h, h'⟩ <;> rw [h]
  · have : ¬ fv k x = fv k y := by grind
    simp [this]
  · simp [h']
  · have : ¬ fv k x = fv k y := by grind
    simp [this]
theorem fnt_not_nan {k : FloatKind} {x : Nat} (h : fnt k x = true) : isN k x = false := by
  unfold fnt at h
  unfold isN FloatKind.decode
  cases h3 : k.format.read x <;> rw [h3] at h <;> first | rfl | cases h
theorem fnt_cn {k : FloatKind} {x : Nat} (h : fnt k x = true) : cn k x = x := cn_of_not (fnt_not_nan h)
/-! ### The opposite, conversions -/
theorem read_neg (k : FloatKind) (b : Nat) : k.format.read (Op.negFloat k b) = (k.format.read b).opposite := by
  have key : ∀ (f : Ieee.Format), f.read (b ^^^ 2 ^ (f.exponentBits + f.fractionBits)) = (f.read b).opposite := by
    intro f
    have e : (b ^^^ 2 ^ (f.exponentBits + f.fractionBits)) % f.signWeight = b % f.signWeight := by
      unfold Ieee.Format.signWeight
      rw [Nat.xor_mod_two_pow, Nat.mod_self, Nat.xor_zero]
    have e2 : ((b ^^^ 2 ^ (f.exponentBits + f.fractionBits)) / f.signWeight % 2 == 1) = !(b / f.signWeight % 2 == 1) := by
      unfold Ieee.Format.signWeight
      rw [← Nat.shiftRight_eq_div_pow, ← Nat.shiftRight_eq_div_pow, Nat.shiftRight_xor_distrib, Nat.shiftRight_eq_div_pow (2 ^ _), Nat.div_self (Nat.two_pow_pos _)]
      generalize b >>> (f.exponentBits + f.fractionBits) = c
      rcases Nat.mod_two_eq_zero_or_one c with h | h
      · have : (c ^^^ 1) % 2 = 1 := by rw [show (2 : Nat) = 2 ^ 1 from rfl, Nat.xor_mod_two_pow]; rw [show (2 : Nat) ^ 1 = 2 from rfl, h]; rfl
        rw [h, this]; rfl
      · have : (c ^^^ 1) % 2 = 0 := by rw [show (2 : Nat) = 2 ^ 1 from rfl, Nat.xor_mod_two_pow]; rw [show (2 : Nat) ^ 1 = 2 from rfl, h]; rfl
        rw [h, this]; rfl
    unfold Ieee.Format.read
    simp only [e, e2]
    split
    · rfl
    · split
      · rfl
      · split <;> rfl
  cases k <;> exact key _
theorem fneg_val {k : FloatKind} {x : Nat} (h : fnt k x = true) : fnt k (fneg k x) = true ∧ fv k (fneg k x) = -fv k x := by
  have hn := fnt_not_nan h
  unfold fneg fnt fv
  rw [if_neg (by rw [hn]; decide), read_neg]
  exact opposite_val h
theorem Bnd.neg {k : FloatKind} {x : Nat} {b : Rat} (h : Bnd k x b) : Bnd k (fneg k x) b := by
  obtain ⟨h1, h2⟩ := fneg_val h.1
  have h3 := h.2
  exact ⟨h1, by grind, by grind⟩
theorem read_bd (f : Ieee.Format) {x : Nat} {s : Bool} {m : Nat} {p : Int} (h : f.read x = .number s m p) : m < 2 ^ (f.fractionBits + 1) ∧ f.leastPlace ≤ p ∧ p ≤ f.leastPlace + (2 ^ f.exponentBits : Nat) := by
  have hb : 0 < f.binade := binade_pos' f
  have e2 : 2 ^ (f.fractionBits + 1) = 2 * f.binade := by unfold Ieee.Format.binade; rw [Nat.pow_succ]; omega
  have hE : f.infRung / f.binade = 2 ^ f.exponentBits - 1 := by unfold Ieee.Format.infRung; exact Nat.mul_div_cancel _ hb
  have hE0 : (0 : Int) < ((2 ^ f.exponentBits : Nat) : Int) := by exact_mod_cast Nat.two_pow_pos f.exponentBits
  unfold Ieee.Format.read at h
  simp only at h
  split at h
  · injection h with h1 h2 h3
    omega
  · split at h
    · rename_i h4 h5
      injection h with h1 h2 h3
      have := Nat.mod_lt (x % f.signWeight) hb
      have h6 : x % f.signWeight / f.binade ≤ f.infRung / f.binade := Nat.div_le_div_right (Nat.le_of_lt h5)
      rw [hE] at h6
      generalize 2 ^ f.exponentBits = E at *
      generalize x % f.signWeight / f.binade = y at *
      omega
    · split at h <;> exact absurd h (by simp)
theorem wide_val {x : Nat} (h : fnt .f32 x = true) : fnt .f64 (wide x) = true ∧ fv .f64 (wide x) = fv .f32 x := by
  have hn := fnt_not_nan h
  unfold wide
  rw [if_neg (by rw [hn]; decide)]
  unfold fnt at h
  cases h3 : FloatKind.f32.format.read x with
  | number s m p =>
    obtain ⟨b1, b2, b3⟩ := read_bd _ h3
    have e1 : FloatKind.f32.format.fractionBits = 23 := rfl
    have e2 : FloatKind.f32.format.leastPlace = -149 := by decide
    have e3 : FloatKind.f32.format.exponentBits = 8 := rfl
    rw [e1] at b1
    rw [e2] at b2 b3
    rw [e3] at b3
    have ed : FloatKind.f32.decode x = .number s m p := h3
    have hm0 : (0 : Rat) ≤ m := by exact_mod_cast Nat.zero_le m
    have hm1 : (m : Rat) ≤ ((2 ^ 24 : Nat) : Rat) := by exact_mod_cast Nat.le_of_lt b1
    have hp := tp_pos p
    have hup : (m : Rat) * tp p ≤ tp 1023 := by
      have a1 := Rat.mul_le_mul_of_nonneg_right hm1 (Rat.le_of_lt hp)
      have a2 : ((2 ^ 24 : Nat) : Rat) * tp p ≤ tp 1023 := by rw [← tp_nat, ← tp_add]; exact tp_le (by omega)
      exact Rat.le_trans a1 a2
    have hlo := Rat.mul_nonneg hm0 (Rat.le_of_lt hp)
    have hpp := tp_pos 1023
    have hsg : dv (.number s m p) ≤ tp 1023 ∧ -dv (.number s m p) ≤ tp 1023 := by
      simp only [dv]
      rcases abs_sg s ((m : Rat) * tp p) with ⟨e, _⟩ | ⟨e, _⟩ <;> rw [e] <;> constructor <;> grind
    have key := write_rnd FloatKind.f64.format (.number s m p) rfl (fmt_exp .f64) 1023 (by rw [top_eq]; decide) hsg.1 hsg.2
    have e4 : fv .f32 x = dv (.number s m p) := by unfold fv; rw [h3]
    rw [e4, ed]
    refine ⟨key.1, ?_⟩
    have e5 : dv (.number s m p) = ((if s then -(m : Int) else m : Int) : Rat) * tp p := by
      cases s
      · rw [if_neg (by decide), Rat.intCast_natCast]; simp [dv, sg]
      · rw [if_pos rfl, Rat.intCast_neg, Rat.intCast_natCast]; simp only [dv, sg]; grind
    refine key.2.eq (z := if s then -(m : Int) else m) (q := p) ?_ (by rw [low_eq]; show (-1074 : Int) ≤ p; omega) e5
    rw [dig_eq]
    show _ < 2 ^ 53
    split <;> omega
  | infinity => rw [h3] at h; cases h
  | nan => rw [h3] at h; cases h
theorem narrow_val {x : Nat} (h : fnt .f64 x = true) (Q : Int) (hQ : Q < 128) (h1 : fv .f64 x ≤ tp Q) (h2 : -fv .f64 x ≤ tp Q) : fits x = true ∧ fnt .f32 (narrow x) = true ∧ Rnd Ieee.single (fv .f64 x) (fv .f32 (narrow x)) := by
  have hn := fnt_not_nan h
  have hd : isNum (FloatKind.f64.decode x) = true := h
  have key := write_rnd FloatKind.f32.format (FloatKind.f64.decode x) hd (fmt_exp .f32) Q (by rw [top_eq]; exact hQ) h1 h2
  unfold narrow
  rw [if_neg (by rw [hn]; decide)]
  refine ⟨?_, key.1, key.2⟩
  unfold fits
  have : (FloatKind.f32.decode (FloatKind.f32.encode (FloatKind.f64.decode x))).isInfinity = false := by
    have k1 := key.1
    show Ieee.Datum.isInfinity (FloatKind.f32.format.read _) = false
    unfold FloatKind.encode
    generalize FloatKind.f32.format.read (FloatKind.f32.format.write (FloatKind.f64.decode x)) = dd at k1 ⊢
    cases dd <;> first | rfl | (cases k1; done)
  rw [this]; simp
theorem narrow_bnd {x : Nat} {b : Rat} (h : Bnd .f64 x b) (hb : Rep .f32 b) : fits x = true ∧ Bnd .f32 (narrow x) b := by
  have h3 := hb.2.1
  have h4 := h.2
  obtain ⟨g1, g2, g3⟩ := narrow_val h.1 127 (by decide) (by have : topK .f32 - 1 = 127 := rfl; rw [this] at h3; grind) (by have : topK .f32 - 1 = 127 := rfl; rw [this] at h3; grind)
  have g4 : Rnd FloatKind.f32.format (fv .f64 x) (fv .f32 (narrow x)) := g3
  exact ⟨g1, g2, g4.rep_ge hb.neg h4.1, g4.rep_le hb h4.2⟩
/-- A word whose datum is known. -/
theorem fv_of {k : FloatKind} {x : Nat} {s : Bool} {m : Nat} {p : Int} (h : k.format.read x = .number s m p) : fnt k x = true ∧ fv k x = sg s * ((m : Rat) * tp p) := by
  unfold fnt fv; rw [h]; exact ⟨rfl, rfl⟩
end Go.Proofs.Ytpnkapdemgieaaa
set_option linter.unusedSimpArgs false
set_option linter.unusedVariables false
set_option linter.unusedSectionVars false
namespace Go.Proofs.Ytpnkapdemgieaaa
open Go Go.RowKit
/-- A whole number as a word. -/
def fI (n : Int) : Nat := cn .f64 (floatOfInt .f64 n)
/-- The term of the k-th round, and the sum ahead of it. -/
def erT (x : Nat) : Nat → Nat
  | 0 => x
  | k + 1 => fop .quo .f64 (fop .mul .f64 (fop .mul .f64 (erT x k) (fneg .f64 (fop .mul .f64 x x))) (fI (2 * k + 1))) (fI ((k + 1) * (2 * k + 3)))
def erS (x : Nat) : Nat → Nat
  | 0 => cn .f64 0
  | k + 1 => fop .add .f64 (erS x k) (erT x k)
def erV (x : Nat) : Nat := if fge .f64 x (cn .f64 4616189618054758400) then cn .f64 4607182418800017408 else if fle .f64 x (cn .f64 13839561654909534208) then cn .f64 13830554455654793216 else fop .mul .f64 (cn .f64 4607760587169110893) (erS x 60)
theorem cn_erV (x : Nat) : cn .f64 (erV x) = erV x := by
  unfold erV; split
  · exact cn_cn _ _
  · split
    · exact cn_cn _ _
    · exact cn_fop _ _ _ _
/-! ### How great -/
theorem ofInt_val (k : FloatKind) (n : Int) (h : n.natAbs < 2 ^ (digK k + 1)) : fnt k (floatOfInt k n) = true ∧ fv k (floatOfInt k n) = n := by
  have e : dv (.number (decide (n < 0)) n.natAbs 0) = (n : Rat) := by
    simp only [dv, tp_zero, Rat.mul_one]
    by_cases h0 : n < 0
    · have : (n.natAbs : Int) = -n := by omega
      have h2 : ((n.natAbs : Nat) : Rat) = ((-n : Int) : Rat) := by rw [← this]; rfl
      rw [h2]; simp [h0, sg]; grind
    · have : (n.natAbs : Int) = n := by omega
      have h2 : ((n.natAbs : Nat) : Rat) = ((n : Int) : Rat) := by rw [← Rat.intCast_natCast, this]
      rw [h2]; simp [h0, sg]
  have hup : (n : Rat) ≤ tp (digK k + 1) ∧ -(n : Rat) ≤ tp (digK k + 1) := by
    have e1 : tp ((digK k : Int) + 1) = ((2 ^ (digK k + 1) : Nat) : Rat) := tp_nat (digK k + 1)
    rw [e1]
    have a1 : n ≤ ((2 ^ (digK k + 1) : Nat) : Int) := by omega
    have a2 : -n ≤ ((2 ^ (digK k + 1) : Nat) : Int) := by omega
    exact ⟨by exact_mod_cast a1, by exact_mod_cast a2⟩
  have key := write_rnd k.format (.number (decide (n < 0)) n.natAbs 0) rfl (fmt_exp k) (digK k + 1) (by rw [top_eq]; cases k <;> decide) (by rw [e]; exact hup.1) (by rw [e]; exact hup.2)
  rw [e] at key
  refine ⟨key.1, ?_⟩
  exact key.2.eq (z := n) (q := 0) (by rw [dig_eq]; exact h) (by rw [low_eq]; cases k <;> decide) (by rw [tp_zero, Rat.mul_one])
theorem fnt_fin (k : FloatKind) (x : Nat) : fnt k x = fin k x := (fin_num k x).symm
/-! ### Where the counter stands -/
def fltOf : Value → Nat
  | .float _ r => r
  | _ => 0
def idxF (c : Nat) : Nat := (List.range 62).findIdx fun j => fI (j : Nat) == c
/-! ### The exponential function, and how fast a front goes -/
def exP (t : Nat) : Nat → Nat
  | 0 => cn .f64 4607182418800017408
  | j + 1 => fop .add .f64 (cn .f64 4607182418800017408) (fop .quo .f64 (fop .mul .f64 t (exP t j)) (fI (12 - (j : Int))))
def exQ (p : Nat) : Nat → Nat
  | 0 => p
  | j + 1 => fop .mul .f64 (exQ p j) (exQ p j)
def exV (y : Nat) : Nat := exQ (exP (fop .quo .f64 y (cn .f64 4643211215818981376)) 12) 8
theorem cn_exP (t j : Nat) : cn .f64 (exP t j) = exP t j := by cases j; exact cn_cn _ _; exact cn_fop _ _ _ _
theorem cn_exQ {p : Nat} (h : cn .f64 p = p) (j : Nat) : cn .f64 (exQ p j) = exQ p j := by cases j; exact h; exact cn_fop _ _ _ _
theorem cn_exV (y : Nat) : cn .f64 (exV y) = exV y := cn_exQ (cn_exP _ _) _
theorem fI_down : ∀ j : Nat, j < 12 → fge .f64 (fI (12 - (j : Int))) (cn .f64 4607182418800017408) = true ∧ fop .sub .f64 (fI (12 - (j : Int))) (cn .f64 4607182418800017408) = fI (12 - ((j + 1 : Nat) : Int)) := by decide +kernel
theorem fI_12 : fI 12 = cn .f64 4622945017495814144 := by decide +kernel
theorem fI_0 : fge .f64 (fI 0) (cn .f64 4607182418800017408) = false := by decide +kernel
theorem hundred_val : (fnt .f64 (cn .f64 4641240890982006784) = true ∧ fv .f64 (cn .f64 4641240890982006784) = 200) ∧ fnt .f64 (cn .f64 13864612927836782592) = true ∧ fv .f64 (cn .f64 13864612927836782592) = -200 := ⟨⟨by decide +kernel, by decide +kernel⟩, by decide +kernel, by decide +kernel⟩
/-- May the exponential function be drawn so. -/
def exOk (y : Nat) : Prop := feq .f64 y y = true ∧ fgt .f64 y (cn .f64 4641240890982006784) = false ∧ flt .f64 y (cn .f64 13864612927836782592) = false
end Go.Proofs.Ytpnkapdemgieaaa
set_option linter.unusedSimpArgs false
set_option linter.unusedVariables false
set_option linter.unusedSectionVars false
namespace Go.Proofs.Ytpnkapdemgieaaa
open Go Go.RowKit
/-- The word is the number q. -/
def V (k : FloatKind) (x : Nat) (q : Rat) : Prop := fnt k x = true ∧ fv k x = q
theorem V.btw {k : FloatKind} {x : Nat} {q : Rat} (h : V k x q) : Btw k x q q := ⟨h.1, by rw [h.2]; exact Rat.le_refl, by rw [h.2]; exact Rat.le_refl⟩
theorem V.op (op : BinOp) (hop : arithOp op = true) {k : FloatKind} {x y : Nat} {a b : Rat} (hx : V k x a) (hy : V k y b) (h0 : op = .quo → b ≠ 0) (hr : Rep k (ex op a b)) : V k (fop op k x y) (ex op a b) := by
  have h := fop_btw op hop k hx.1 hy.1 (by rw [hy.2]; exact h0) hr hr (by rw [hx.2, hy.2]; exact Rat.le_refl) (by rw [hx.2, hy.2]; exact Rat.le_refl)
  exact ⟨h.1, Rat.le_antisymm h.2.2 h.2.1⟩
theorem V.eq {k : FloatKind} {x : Nat} {a b : Rat} (h : V k x a) (e : a = b) : V k x b := e ▸ h
theorem V.int (k : FloatKind) (n : Int) (h : n.natAbs < 2 ^ (digK k + 1)) : V k (floatOfInt k n) n := ofInt_val k n h
theorem V.cn {k : FloatKind} {x : Nat} {q : Rat} (h : V k x q) : V k (Go.Proofs.Ytpnkapdemgieaaa.cn k x) q := by rw [fnt_cn h.1]; exact h
theorem tp_n1 : tp (-1) * 2 = 1 := by have := tp_add (-1) 1; rw [tp_one] at this; rw [← this]; exact tp_zero
theorem tp_n2 : tp (-2) * 4 = 1 := by
  have h := tp_n1
  have e : tp (-2) = tp (-1) * tp (-1) := by rw [← tp_add]; rfl
  rw [e]; grind
theorem tp_n3 : tp (-3) * 8 = 1 := by
  have e : tp (-3) = tp (-2) * tp (-1) := by rw [← tp_add]; rfl
  have h := tp_n1
  have h2 := tp_n2
  rw [e]; grind
/-- A whole number of units of a power of two. -/
theorem rep_at {k : FloatKind} (z q : Int) (h : z.natAbs < 2 ^ (digK k + 1)) (h1 : lowK k ≤ q) (h2 : q + digK k + 1 < topK k) {c : Rat} (hc : c = z * tp q) : Rep k c := hc ▸ Rep.mul_tp z q h h1 h2
theorem rep_half {n : Int} (h : n.natAbs < 16777216) : Rep .f32 ((n : Rat) / 2) := rep_at (k := .f32) n (-1) h (by decide) (by decide) (by have := tp_n1; grind)
theorem rep_quarter {n : Int} (h : n.natAbs < 16777216) : Rep .f32 ((n : Rat) / 4) := rep_at (k := .f32) n (-2) h (by decide) (by decide) (by have := tp_n2; grind)
theorem rep_eighth {n : Int} (h : n.natAbs < 16777216) : Rep .f32 ((n : Rat) / 8) := rep_at (k := .f32) n (-3) h (by decide) (by decide) (by have := tp_n3; grind)
theorem c2 : Go.Proofs.Ytpnkapdemgieaaa.cn .f32 1073741824 = floatOfInt .f32 2 := by decide +kernel
theorem c4 : Go.Proofs.Ytpnkapdemgieaaa.cn .f32 1082130432 = floatOfInt .f32 4 := by decide +kernel
theorem c0 : Go.Proofs.Ytpnkapdemgieaaa.cn .f32 0 = floatOfInt .f32 0 := by decide +kernel
theorem c1 : Go.Proofs.Ytpnkapdemgieaaa.cn .f32 1065353216 = floatOfInt .f32 1 := by decide +kernel
theorem V2 : V .f32 (Go.Proofs.Ytpnkapdemgieaaa.cn .f32 1073741824) 2 := by rw [c2]; exact (V.int .f32 2 (by decide)).eq rfl
theorem V4 : V .f32 (Go.Proofs.Ytpnkapdemgieaaa.cn .f32 1082130432) 4 := by rw [c4]; exact (V.int .f32 4 (by decide)).eq rfl
theorem V1 : V .f32 (Go.Proofs.Ytpnkapdemgieaaa.cn .f32 1065353216) 1 := by rw [c1]; exact (V.int .f32 1 (by decide)).eq rfl
theorem V0 : V .f32 (Go.Proofs.Ytpnkapdemgieaaa.cn .f32 0) 0 := by rw [c0]; exact (V.int .f32 0 (by decide)).eq rfl
theorem half_val {n : Int} (h : n.natAbs < 16777216) : V .f32 (fop .quo .f32 (Go.Proofs.Ytpnkapdemgieaaa.cn .f32 (floatOfInt .f32 n)) (Go.Proofs.Ytpnkapdemgieaaa.cn .f32 1073741824)) ((n : Rat) / 2) :=
  V.op .quo rfl (V.int .f32 n h).cn V2 (fun _ => by decide) (rep_half h)
theorem quarter_val {n : Int} (h : n.natAbs < 16777216) : V .f32 (fop .quo .f32 (Go.Proofs.Ytpnkapdemgieaaa.cn .f32 (floatOfInt .f32 n)) (Go.Proofs.Ytpnkapdemgieaaa.cn .f32 1082130432)) ((n : Rat) / 4) :=
  V.op .quo rfl (V.int .f32 n h).cn V4 (fun _ => by decide) (rep_quarter h)
end Go.Proofs.Ytpnkapdemgieaaa
set_option linter.unusedSimpArgs false
set_option linter.unusedVariables false
set_option linter.unusedSectionVars false
namespace Go.Proofs.Ytpnkapdemgieaaa
open Go Go.RowKit
theorem FS.later {w w' : World} {v : Value} {xs : List Nat} (h : FS w v xs) (hb : Below w.heap.size w w') : FS w' v xs := by
  obtain ⟨p, c, rfl, h1, h2, h3⟩ := h
  refine ⟨p, c, rfl, h1, h2, fun i hi => ?_⟩
  obtain ⟨b, o, rfl, hc⟩ := h3 i hi
  exact ⟨b, o, rfl, cell_later hb hc⟩
theorem FS.drew {w : World} {v : Value} {xs : List Nat} (h : FS w v xs) (n : Nat) : FS (w.drewN n) v xs := h
end Go.Proofs.Ytpnkapdemgieaaa
set_option linter.unusedSimpArgs false
set_option linter.unusedVariables false
set_option linter.unusedSectionVars false
namespace Go.Proofs.Ytpnkapdemgieaaa
open Go Go.RowKit
set_option maxRecDepth 100000 in
theorem Try.infoF32 : (Try.prog.info? 28).map (fun i => (i.zero, i.size, i.bytes)) = some (some (.float .f32 0), 1, 4) := by kernel_rfl
/-- A slice of numbers that the call itself has made, from block number B on. -/
def OF (B : Nat) (w : World) (u : Value) (xs : List Nat) : Prop := w.ownsRow B 28 1 u xs.length (xs.map (Value.float .f32))
theorem OF.block {B : Nat} {w : World} {u : Value} {xs : List Nat} (h : OF B w u xs) : ∀ k, u.ownBlock = some k → B ≤ k ∧ k < w.heap.size := World.ownsRow.lt h
theorem OF.kept {B : Nat} {w w' : World} {u : Value} {xs : List Nat} {row : Option Nat} (h : OF B w u xs) (hg : w.grownBy w' row) (hne : u.ownBlock = none ∨ u.ownBlock ≠ row) : OF B w' u xs := World.ownsRow.kept h hg hne
theorem below_grown {w w' : World} (h : Below w.heap.size w w') (row : Option Nat) : w.grownBy w' row := ⟨h.os, h.tape, h.output, h.size, fun k hk _ => h.block k hk⟩
theorem OF.later {B : Nat} {w w' : World} {u : Value} {xs : List Nat} (h : OF B w u xs) (hb : Below w.heap.size w w') : OF B w' u xs := by
  cases hu : u.ownBlock with
  | none => exact h.kept (below_grown hb none) (.inl hu)
  | some k => exact h.kept (below_grown hb none) (.inr (by rw [hu]; simp))
theorem OF.base {B B' : Nat} {w : World} {u : Value} {xs : List Nat} (h : OF B w u xs) (hB : B' ≤ B) : OF B' w u xs := by
  refine ⟨h.1, ?_⟩
  rcases h.2 with h2 | ⟨g, c, cur, r1, r2, r⟩
  · exact .inl h2
  · exact .inr ⟨g, c, cur, r1, by omega, r⟩
/-- An own slice, seen. -/
theorem OF.view {B : Nat} {w : World} {u : Value} {xs : List Nat} (h : OF B w u xs) : (u = .slice none 0 0 ∧ xs = []) ∨ ∃ g c, u = .slice (some ⟨g, 0, none⟩) xs.length c ∧ B ≤ g ∧ g < w.heap.size ∧ xs.length ≤ c ∧ c ≤ maxLen ∧ ∀ j, j < xs.length → w.cell? ⟨g, j, none⟩ = some (.float .f32 (xs.getD j 0)) ∧ w.frozen? ⟨g, j, none⟩ = false := by
  rcases h.2 with ⟨h1, h2⟩ | ⟨g, c, cur, h1, h2, h3, h4, h5, _⟩
  · exact .inl ⟨h1, by simpa using h2⟩
  · subst h1
    refine .inr ⟨g, c, rfl, h2, (OF.block h g rfl).2, h4, h5, fun j hj => ⟨?_, World.ownsRow.frozenAt h j⟩⟩
    have := World.ownsRow.cellAt h j (by simpa using hj)
    rw [this]
    simp [hj]
theorem OF.setCell {B : Nat} {w : World} {u : Value} {xs : List Nat} (h : OF B w u xs) {a : Addr} (ha : a.block < B) (v : Value) : OF B (w.setCell a v) u xs := by
  refine h.kept (row := some a.block) ⟨rfl, rfl, rfl, by simp, fun k _ hk => Below.heap_setCell _ _ _ _ (fun e => hk (by rw [e]))⟩ ?_
  cases hu : u.ownBlock with
  | none => exact .inl rfl
  | some k =>
    refine .inr fun e => ?_
    have := (h.block k hu).1
    simp at e
    omega
theorem OF.alloc {B : Nat} {w : World} {u : Value} {xs : List Nat} (h : OF B w u xs) (o : Obj) : OF B (w.alloc o) u xs := h.later ((Below.refl _ _).alloc (Nat.le_refl _) o)
theorem OF.drewN {B : Nat} {w : World} {u : Value} {xs : List Nat} (h : OF B w u xs) (n : Nat) : OF B (w.drewN n) u xs := h.later (below_drewN (Below.refl _ _) n)
theorem OF.shape {B : Nat} {w : World} {u : Value} {xs : List Nat} (h : OF B w u xs) : ∃ q c, u = .slice q xs.length c := by
  rcases h.view with ⟨rfl, rfl⟩ | ⟨g, c, rfl, _⟩
  · exact ⟨none, 0, rfl⟩
  · exact ⟨_, c, rfl⟩
theorem OF.fs {B : Nat} {w : World} {u : Value} {xs : List Nat} (h : OF B w u xs) : FS w u xs := by
  rcases h.view with ⟨rfl, rfl⟩ | ⟨g, c, rfl, _, _, h1, h2, h3⟩
  · exact ⟨none, 0, rfl, by omega, by simp, fun i hi => by simp at hi⟩
  · exact ⟨_, c, rfl, by simpa [maxLen] using h2, h1, fun i hi => ⟨g, 0, rfl, by rw [Nat.zero_add]; exact (h3 i hi).1⟩⟩
theorem FS.kept {w w' : World} {v : Value} {xs : List Nat} {row : Option Nat} (h : FS w v xs) (hg : w.grownBy w' row) (hne : v.ownBlock = none ∨ v.ownBlock ≠ row) : FS w' v xs := by
  obtain ⟨p, c, rfl, h1, h2, h3⟩ := h
  refine ⟨p, c, rfl, h1, h2, fun i hi => ?_⟩
  obtain ⟨b, o, rfl, hc⟩ := h3 i hi
  refine ⟨b, o, rfl, hg.cell hc ?_⟩
  rcases hne with hne | hne
  · cases hne
  · exact hne
/-- In a plan: a call that hands back an own slice, somewhere in its value. -/
def Clm.own (mk : Value → Value) (B : Nat) (xs : List Nat) : Clm := ⟨1, fun _ v => ∃ q c, v = mk (.slice q xs.length c), fun _ v w => ∀ u, v = mk u → OF B w u xs, fun _ => ⟨_, none, 0, rfl⟩,
  fun _ v w w' h hb u e => (h u e).later hb, fun h => nomatch h⟩
end Go.Proofs.Ytpnkapdemgieaaa
set_option linter.unusedSimpArgs false
set_option linter.unusedVariables false
set_option linter.unusedSectionVars false
namespace Go.Proofs.Ytpnkapdemgieaaa
open Go Go.RowKit
theorem wp_named {P : Program} {c : Code} {Q : Exit → Act → World → Prop} {a : Act} {w : World} (h : ∀ W, W = w → c.wp P Q a W) : c.wp P Q a w := h _ rfl
/-- The walk stands still here. -/
def Stop (p : Prop) : Prop := p
theorem stop_here {p : Prop} (h : Stop p) : p := h
theorem OF.nil0 (B : Nat) (w : World) : OF B w (.slice .none 0 0) [] := World.ownsRow_nil _ _ _ _
theorem wpList_app {B : Nat} {xs : List Nat} {v : Value} {b r : Nat} {w : World} {ops : Array Oper} {rest : List Oper} {o : Oper} {a : Act} {Q : Exit → Act → World → Prop} (hg : o.guard = .none) {s x : Operand}
    (ho : o.op = .call { callee := .builtin .append, args := #[s, x], argTypes := #[24, 24] }) (hs : a.eval s = v) (hx : a.eval x = .slice (some ⟨b, 0, .none⟩) 1 1) (hO : OF B w v xs) (hc : w.cell? ⟨b, 0, .none⟩ = some (.float .f32 r)) (hn : xs.length < 1048576) (hB : B ≤ w.heap.size)
    (h : ∀ q c w', OF B w' (.slice q (xs.length + 1) c) (xs ++ [r]) → Below B w w' → wpList Try.prog ops Q rest (a.put o.dst (.slice q (xs.length + 1) c)) w') : wpList Try.prog ops Q (o :: rest) a w := by
  obtain ⟨i0, hi, hz0, hz1, hz2⟩ := info_parts Try.infoF32
  refine wpList_append_own w hg s x 24 ho B 28 i0 (.float .f32 0) 1 4 Try.underlying24 hi hz0 hz1 hz2 rfl (by decide) v xs.length (xs.map (Value.float .f32)) hs hO ⟨b, 0, .none⟩ 1 1 [.float .f32 r] hx rfl ?_ ?_ (by unfold maxLen; omega) (by omega) hB ?_
  · intro j u hj
    match j, hj with
    | 0, hj => simp at hj; subst hj; simpa [Addr.add] using hc
    | j + 1, hj => simp at hj
  · intro u hu; simp at hu; subst hu; rfl
  · intro v' w' hown hgrow _
    have hO' : OF B w' v' (xs ++ [r]) := by
      unfold OF
      simpa using hown
    obtain ⟨q, c, rfl⟩ := hO'.shape
    simp only [List.length_append, List.length_cons, List.length_nil, Nat.zero_add] at hO' ⊢
    exact h q c w' hO' ((Below.refl _ _).grown hgrow hB fun k hk => (OF.block hO k hk).1)
/-- A slice of numbers (of these classes) that the call has made, and a bool. -/
def BC (w : World) (L : List Nat) (b : Bool) (e : Ending) (w' : World) : Prop := ∃ u ys, e = .returned (.tuple #[u, .bool b]) ∧ Below w.heap.size w w' ∧ OF w.heap.size w' u ys ∧ ys.map (cn .f32) = L
end Go.Proofs.Ytpnkapdemgieaaa
set_option linter.unusedSimpArgs false
set_option linter.unusedVariables false
set_option linter.unusedSectionVars false
namespace Go.Proofs.Ytpnkapdemgieaaa
open Go Go.RowKit
theorem FS.alloc {w : World} {v : Value} {xs : List Nat} (h : FS w v xs) (o : Obj) : FS (w.alloc o) v xs := h.later ((Below.refl _ _).alloc (Nat.le_refl _) o)
theorem FS.drewN {w : World} {v : Value} {xs : List Nat} (h : FS w v xs) (n : Nat) : FS (w.drewN n) v xs := h
end Go.Proofs.Ytpnkapdemgieaaa
set_option linter.unusedSimpArgs false
set_option linter.unusedVariables false
set_option linter.unusedSectionVars false
namespace Go.Proofs.Ytpnkapdemgieaaa
open Go Go.RowKit
/-- Only blocks from B on and ahead of S have turned; none is new. -/
structure Turn (B S : Nat) (w w' : World) : Prop where
  os : w'.os = w.os
  tape : w'.tape = w.tape
  output : w'.output = w.output
  size : w.heap.size ≤ w'.heap.size
  block : ∀ k, k < w.heap.size → k < B ∨ S ≤ k → w'.heap[k]? = w.heap[k]?
theorem Turn.refl (B S : Nat) (w : World) : Turn B S w w := ⟨rfl, rfl, rfl, Nat.le_refl _, fun _ _ _ => rfl⟩
theorem Turn.trans {B S : Nat} {a b c : World} (h : Turn B S a b) (h' : Turn B S b c) : Turn B S a c :=
  ⟨h'.os.trans h.os, h'.tape.trans h.tape, h'.output.trans h.output, Nat.le_trans h.size h'.size, fun k hk hr => (h'.block k (Nat.lt_of_lt_of_le hk h.size) hr).trans (h.block k hk hr)⟩
theorem Turn.draws {B S : Nat} {a b : World} (h : Turn B S a b) (n : Nat) : Turn B S a (b.drewN n) := ⟨h.os, h.tape, h.output, h.size, h.block⟩
theorem Turn.of {B S : Nat} {w w' : World} {u : Value} (hg : w.grownBy w' u.ownBlock) (h : ∀ k, u.ownBlock = some k → B ≤ k ∧ k < S) : Turn B S w w' :=
  ⟨hg.os, hg.tape, hg.output, hg.size, fun k hk hr => hg.block k hk fun e => by have := h k e.symm; omega⟩
theorem Turn.below {B S : Nat} {a b : World} (h : Below a.heap.size a b) : Turn B S a b := ⟨h.os, h.tape, h.output, h.size, fun k hk _ => h.block k hk⟩
theorem Turn.alloc {B S : Nat} {a b : World} (h : Turn B S a b) (o : Obj) : Turn B S a (b.alloc o) := h.trans (Turn.below ((Below.refl _ _).alloc (Nat.le_refl _) o))
theorem turn_track {B S : Nat} {w w' : World} (hg : Turn B S w w') : ∀ {L : List Nat}, Trk w L → (∀ b ∈ L, b < B ∨ S ≤ b) → Trk w' L ∧ SameOn w w' L
  | [], _, _ => ⟨Trk.nil _, trivial⟩
  | b :: L, h, hL => by
    have h0 : b < w.heap.size := h b (by simp)
    have h1 := hg.size
    obtain ⟨i1, i2⟩ := turn_track hg (L := L) (fun c hc => h c (by simp [hc])) (fun c hc => hL c (by simp [hc]))
    have hb := hL b (by simp)
    exact ⟨i1.more (by omega), ⟨⟨by omega, by omega, by omega, fun k => by omega, fun k => by omega⟩, fun o => World.cell?_of_block (hg.block b h0 hb), fun o => World.frozen?_of_block (hg.block b h0 hb)⟩, i2⟩
/-- A row of the call's own, of n cells of a type, in a block from B on and ahead of S. -/
def RX (t : TypeId) (B S : Nat) (w : World) (u : Value) (n : Nat) (vs : List Value) : Prop := w.ownsRow B t 1 u n vs ∧ ∀ k, u.ownBlock = some k → k < S
section
variable {t : TypeId} {B S : Nat} {w w' : World} {u : Value} {n : Nat} {vs : List Value}
theorem RX.of (h : w.ownsRow B t 1 u n vs) : RX t B w.heap.size w u n vs := ⟨h, fun k hk => (World.ownsRow.lt h k hk).2⟩
theorem RX.lt (h : RX t B S w u n vs) : ∀ k, u.ownBlock = some k → B ≤ k ∧ k < S := fun k hk => ⟨(World.ownsRow.lt h.1 k hk).1, h.2 k hk⟩
theorem RX.kept {row : Option Nat} (h : RX t B S w u n vs) (hg : w.grownBy w' row) (hne : u.ownBlock = none ∨ u.ownBlock ≠ row) : RX t B S w' u n vs := ⟨World.ownsRow.kept h.1 hg hne, h.2⟩
theorem RX.later (h : RX t B S w u n vs) (hb : Below w.heap.size w w') : RX t B S w' u n vs := by
  cases hu : u.ownBlock with
  | none => exact h.kept (below_grown hb none) (.inl hu)
  | some k => exact h.kept (below_grown hb none) (.inr (by rw [hu]; simp))
theorem RX.alloc (h : RX t B S w u n vs) (o : Obj) : RX t B S (w.alloc o) u n vs := h.later ((Below.refl _ _).alloc (Nat.le_refl _) o)
theorem RX.drewN (h : RX t B S w u n vs) (m : Nat) : RX t B S (w.drewN m) u n vs := h.later (below_drewN (Below.refl _ _) m)
theorem RX.turn {B' S' : Nat} (h : RX t B S w u n vs) (hg : Turn B' S' w w') (hd : S ≤ B' ∨ S' ≤ B) : RX t B S w' u n vs := by
  refine ⟨?_, h.2⟩
  obtain ⟨h1, h2⟩ := h
  refine ⟨h1.1, ?_⟩
  rcases h1.2 with h3 | ⟨g, c, cur, e, hb, hg', r⟩
  · exact .inl h3
  · have hgS := h2 g (by rw [e]; rfl)
    have hgw : g < w.heap.size := (Array.getElem?_eq_some_iff.1 hg').1
    exact .inr ⟨g, c, cur, e, hb, (hg.block g hgw (by omega)).trans hg', r⟩
theorem RX.setCell (h : RX t B S w u n vs) {a : Addr} (ha : a.block < B ∨ S ≤ a.block) (v : Value) : RX t B S (w.setCell a v) u n vs := by
  refine h.kept (row := some a.block) ⟨rfl, rfl, rfl, by simp, fun k _ hk => Below.heap_setCell _ _ _ _ (fun e => hk (by rw [e]))⟩ ?_
  cases hu : u.ownBlock with
  | none => exact .inl rfl
  | some k =>
    refine .inr fun e => ?_
    have := h.lt k hu
    simp at e
    omega
end
def FX (B S : Nat) (w : World) (u : Value) (xs : List Nat) : Prop := RX 28 B S w u xs.length (xs.map (Value.float .f32))
section
variable {B S B' S' : Nat} {w w' : World} {u : Value} {xs : List Nat}
theorem FX.of (h : OF B w u xs) : FX B w.heap.size w u xs := RX.of h
theorem FX.own (h : FX B S w u xs) : OF B w u xs := h.1
theorem FX.later (h : FX B S w u xs) (hb : Below w.heap.size w w') : FX B S w' u xs := RX.later h hb
theorem FX.alloc (h : FX B S w u xs) (o : Obj) : FX B S (w.alloc o) u xs := RX.alloc h o
theorem FX.drewN (h : FX B S w u xs) (m : Nat) : FX B S (w.drewN m) u xs := RX.drewN h m
theorem FX.turn (h : FX B S w u xs) (hg : Turn B' S' w w') (hd : S ≤ B' ∨ S' ≤ B) : FX B S w' u xs := RX.turn h hg hd
theorem FX.setCell (h : FX B S w u xs) {a : Addr} (ha : a.block < B ∨ S ≤ a.block) (v : Value) : FX B S (w.setCell a v) u xs := RX.setCell h ha v
end
end Go.Proofs.Ytpnkapdemgieaaa
