/-
  What the small functions over numbers return (the program's and the reference's), each proved once. No condition but what each contract says.
  What a call that only makes memory leaves of some blocks, in one word; what such calls hand back (floats up to a NaN's bits); the steps of a plan for them. No condition; nothing of the program is named here.
  Stuffs: which are valid (the program's and the reference's), each function proved once. No condition but what each contract says.
  How warm stuff with a heat is, which part of it is molten, how easily heat flows (the program's and the reference's), each function proved once. No condition but what each contract says.
  Which words are finite; shares; variadic calls with few numbers. No condition but what each law says.
  Slices that are only read: later they hold what they held. No condition.
  Slices of 32-bit numbers: what a call makes, writes and compares; the laws' own helpers (toFloat32S, eqFloat32S, markFloat32S, heldFloat32S, szFloat32S), each proved once. No condition but what each contract says.
  Slices that are appended to, one number at a time; which lists are finite (the reference's). No condition but what each law says.
  Marks: what a call leaves that writes into one own slice; slices that lie apart. No condition but what each law says.
  Rows of the call's own, with the blocks between which they lie; what a call leaves that writes into some of these blocks. No condition; nothing of the program is named here.
  Bytes that choose numbers: the source of what the statements draw. No condition but what each contract says.
  How this seat's bars and slices of numbers are opened to their cells. No condition.
  Draws: a number below a bound; a source made of bytes; bytes handed in. No condition but what each contract says.
-/
import Derived.Test.YtjeeflldbhajiaaBM1
import Derived.Deep.Slices
set_option linter.unusedSimpArgs false
set_option linter.unusedVariables false
set_option linter.unusedSectionVars false
namespace Go.Proofs.Ytjeeflldbhajiaa
open Go Go.RowKit
def RI (w : World) (n : Int) (e : Ending) (w' : World) : Prop := e = .returned (.int .i64 n) ∧ ∃ m, w' = w.drewN m
/-- A slice of 32-bit numbers with these words. -/
def FS (w : World) (v : Value) (xs : List Nat) : Prop :=
  ∃ p c, v = .slice p xs.length c ∧ c ≤ 9223372036854775807 ∧ xs.length ≤ c ∧ ∀ i, i < xs.length → ∃ b o, p = some ⟨b, o, none⟩ ∧ w.cell? ⟨b, o + i, none⟩ = some (.float .f32 (xs.getD i 0))
theorem FS_view {w : World} {v : Value} {xs : List Nat} (h : FS w v xs) : ∃ p c, v = .slice p xs.length c ∧ c ≤ 9223372036854775807 ∧ xs.length ≤ c ∧ ∀ i, i < xs.length → ∃ b o, p = some ⟨b, o, none⟩ ∧ w.cell? ⟨b, o + i, none⟩ = some (.float .f32 (xs.getD i 0)) := h
def findI (p : Nat → Bool) (xs : List Nat) : Int := match xs.findIdx? p with | some i => i | none => -1
theorem findI_at (p : Nat → Bool) (xs : List Nat) (k : Nat) (hk : k < xs.length) (h0 : ∀ j, j < k → p (xs.getD j 0) = false) (h1 : p (xs.getD k 0) = true) : findI p xs = k := by
  have : xs.findIdx? p = some k := by
    rw [List.findIdx?_eq_some_iff_getElem]
    refine ⟨hk, by simpa [hk] using h1, fun j hj => ?_⟩
    have := h0 j hj
    simpa [show j < xs.length by omega] using this
  simp [findI, this]
theorem findI_no (p : Nat → Bool) (xs : List Nat) (h0 : ∀ j, j < xs.length → p (xs.getD j 0) = false) : findI p xs = -1 := by
  have : xs.findIdx? p = none := by
    rw [List.findIdx?_eq_none_iff]
    intro x hx
    obtain ⟨j, hj, rfl⟩ := List.getElem_of_mem hx
    have := h0 j hj
    simpa [hj] using this
  simp [findI, this]
def inB (n lo hi : Int) : Bool := decide (lo ≤ n) && decide (n ≤ hi)
theorem inB_split (n lo hi : Int) : (lo ≤ n ∧ n ≤ hi) ∨ (lo ≤ n ∧ ¬ n ≤ hi) ∨ ¬ lo ≤ n := by omega
set_option maxHeartbeats 400000 in
theorem within_any (n lo hi : Int) (w : World) :
    Calls Try.prog 86 #[.int .i64 n, .int .i64 lo, .int .i64 hi] w (RB w (inB n lo hi)) := by
  rcases inB_split n lo hi with ⟨h1, h2⟩ | ⟨h1, h2⟩ | h1 <;>
  · go_enter Try.func86, Try.ntmps86
    go_wp2
    go_ret
    exact ⟨by simp [inB]; omega, 0, rfl⟩
/-- Is a number finite; is it finite and greater than 0; at least 0; a number, if it is finite. -/
def fin (k : FloatKind) (c : Nat) : Bool := feq k (fop .sub k c c) (cn k 0)
def abv (c : Nat) : Bool := fin .f32 c && fgt .f32 c (cn .f32 0)
def chk (c : Nat) : Nat := if fin .f32 c then c else cn .f32 0
theorem chk_yes {c : Nat} (h : fin .f32 c = true) : chk c = c := by simp [chk, h]
theorem chk_no {c : Nat} (h : fin .f32 c = false) : chk c = cn .f32 0 := by simp [chk, h]
set_option maxHeartbeats 400000 in
theorem IsFinite_any (x : Nat) (w : World) : Calls Try.prog 67 #[.float .f32 x] w (RB w (fin .f32 (cn .f32 x))) := by
  go_enter Try.func67, Try.ntmps67
  go_wp2_with (first | (with_reducible refine at_list ?_; refine wpList_fop rfl rfl rfl rfl rfl ?_; intro r n hr0; have hr := hr0 _ _ (by first | with_reducible assumption | exact rfl) (by first | with_reducible assumption | exact rfl); clear hr0) | (with_reducible refine at_list ?_; refine wpList_neg rfl rfl rfl ?_; intro r hr0; have hr := hr0 _ (by first | with_reducible assumption | exact rfl); clear hr0) | (with_reducible refine at_list ?_; refine wpList_fop_g rfl rfl rfl rfl rfl ?_; intro r n hr0; have hr := hr0 _ _ (by first | with_reducible assumption | exact rfl) (by first | with_reducible assumption | exact rfl); clear hr0) | (with_reducible refine at_list ?_; refine wpList_wide_g rfl rfl Try.underlying22 Try.underlying40 rfl ?_; intro r n hr0; have hr := hr0 _ (by first | with_reducible assumption | exact rfl); clear hr0) | (with_reducible refine at_list ?_; refine wpList_wide rfl rfl rfl Try.underlying22 Try.underlying40 ?_; intro r n hr0; have hr := hr0 _ (by first | with_reducible assumption | exact rfl); clear hr0))
  go_ret
  exact ⟨by simp only [*]; rfl, _, rfl⟩
def shr (c : Nat) : Bool := fge .f32 c (cn .f32 0) && fle .f32 c (cn .f32 1065353216)
set_option maxHeartbeats 400000 in
theorem checked_any (x : Nat) (w : World) : Calls Try.prog 71 #[.float .f32 x] w (RFB w .f32 (chk (cn .f32 x)) (fin .f32 (cn .f32 x))) := by
  rcases h : fin .f32 (cn .f32 x)
  · go_enter Try.func71, Try.ntmps71
    go_wp2_with (first | (with_reducible refine at_list ?_; refine wpList_fop rfl rfl rfl rfl rfl ?_; intro r n hr0; have hr := hr0 _ _ (by first | with_reducible assumption | exact rfl) (by first | with_reducible assumption | exact rfl); clear hr0) | (with_reducible refine at_list ?_; refine wpList_neg rfl rfl rfl ?_; intro r hr0; have hr := hr0 _ (by first | with_reducible assumption | exact rfl); clear hr0) | (with_reducible refine at_list ?_; refine wpList_fop_g rfl rfl rfl rfl rfl ?_; intro r n hr0; have hr := hr0 _ _ (by first | with_reducible assumption | exact rfl) (by first | with_reducible assumption | exact rfl); clear hr0) | (with_reducible refine at_list ?_; refine wpList_wide_g rfl rfl Try.underlying22 Try.underlying40 rfl ?_; intro r n hr0; have hr := hr0 _ (by first | with_reducible assumption | exact rfl); clear hr0) | (with_reducible refine at_list ?_; refine wpList_wide rfl rfl rfl Try.underlying22 Try.underlying40 ?_; intro r n hr0; have hr := hr0 _ (by first | with_reducible assumption | exact rfl); clear hr0) | (go_at_call 67; refine (IsFinite_any _ _).mono ?_; rintro e w' ⟨rfl, n, rfl⟩))
    go_ret2
    exact ⟨_, rfl, (chk_no h).symm, _, rfl⟩
  · go_enter Try.func71, Try.ntmps71
    go_wp2_with (first | (with_reducible refine at_list ?_; refine wpList_fop rfl rfl rfl rfl rfl ?_; intro r n hr0; have hr := hr0 _ _ (by first | with_reducible assumption | exact rfl) (by first | with_reducible assumption | exact rfl); clear hr0) | (with_reducible refine at_list ?_; refine wpList_neg rfl rfl rfl ?_; intro r hr0; have hr := hr0 _ (by first | with_reducible assumption | exact rfl); clear hr0) | (with_reducible refine at_list ?_; refine wpList_fop_g rfl rfl rfl rfl rfl ?_; intro r n hr0; have hr := hr0 _ _ (by first | with_reducible assumption | exact rfl) (by first | with_reducible assumption | exact rfl); clear hr0) | (with_reducible refine at_list ?_; refine wpList_wide_g rfl rfl Try.underlying22 Try.underlying40 rfl ?_; intro r n hr0; have hr := hr0 _ (by first | with_reducible assumption | exact rfl); clear hr0) | (with_reducible refine at_list ?_; refine wpList_wide rfl rfl rfl Try.underlying22 Try.underlying40 ?_; intro r n hr0; have hr := hr0 _ (by first | with_reducible assumption | exact rfl); clear hr0) | (go_at_call 67; refine (IsFinite_any _ _).mono ?_; rintro e w' ⟨rfl, n, rfl⟩))
    go_ret2
    exact ⟨_, rfl, (chk_yes h).symm, _, rfl⟩
set_option maxHeartbeats 400000 in
theorem arePositive1_any (x : Nat) (w : World) : Calls Try.prog 109 #[.float .f32 x] w (RB w (!fin .f32 (cn .f32 x) || fle .f32 (cn .f32 x) (cn .f32 0))) := by
  rcases h : fin .f32 (cn .f32 x) <;>
  · go_enter Try.func109, Try.ntmps109
    go_wp2_with (first | (with_reducible refine at_list ?_; refine wpList_fop rfl rfl rfl rfl rfl ?_; intro r n hr0; have hr := hr0 _ _ (by first | with_reducible assumption | exact rfl) (by first | with_reducible assumption | exact rfl); clear hr0) | (with_reducible refine at_list ?_; refine wpList_neg rfl rfl rfl ?_; intro r hr0; have hr := hr0 _ (by first | with_reducible assumption | exact rfl); clear hr0) | (with_reducible refine at_list ?_; refine wpList_fop_g rfl rfl rfl rfl rfl ?_; intro r n hr0; have hr := hr0 _ _ (by first | with_reducible assumption | exact rfl) (by first | with_reducible assumption | exact rfl); clear hr0) | (with_reducible refine at_list ?_; refine wpList_wide_g rfl rfl Try.underlying22 Try.underlying40 rfl ?_; intro r n hr0; have hr := hr0 _ (by first | with_reducible assumption | exact rfl); clear hr0) | (with_reducible refine at_list ?_; refine wpList_wide rfl rfl rfl Try.underlying22 Try.underlying40 ?_; intro r n hr0; have hr := hr0 _ (by first | with_reducible assumption | exact rfl); clear hr0) | (go_at_call 67; refine (IsFinite_any _ _).mono ?_; rintro e w' ⟨rfl, n, rfl⟩))
    go_ret
    exact ⟨by simp, _, rfl⟩
set_option maxHeartbeats 400000 in
theorem areFinite1_any (x : Nat) (w : World) : Calls Try.prog 111 #[.float .f32 x] w (RB w (!fin .f32 (cn .f32 x))) := by
  go_enter Try.func111, Try.ntmps111
  go_wp2_with (first | (with_reducible refine at_list ?_; refine wpList_fop rfl rfl rfl rfl rfl ?_; intro r n hr0; have hr := hr0 _ _ (by first | with_reducible assumption | exact rfl) (by first | with_reducible assumption | exact rfl); clear hr0) | (with_reducible refine at_list ?_; refine wpList_neg rfl rfl rfl ?_; intro r hr0; have hr := hr0 _ (by first | with_reducible assumption | exact rfl); clear hr0) | (with_reducible refine at_list ?_; refine wpList_fop_g rfl rfl rfl rfl rfl ?_; intro r n hr0; have hr := hr0 _ _ (by first | with_reducible assumption | exact rfl) (by first | with_reducible assumption | exact rfl); clear hr0) | (with_reducible refine at_list ?_; refine wpList_wide_g rfl rfl Try.underlying22 Try.underlying40 rfl ?_; intro r n hr0; have hr := hr0 _ (by first | with_reducible assumption | exact rfl); clear hr0) | (with_reducible refine at_list ?_; refine wpList_wide rfl rfl rfl Try.underlying22 Try.underlying40 ?_; intro r n hr0; have hr := hr0 _ (by first | with_reducible assumption | exact rfl); clear hr0) | (go_at_call 67; refine (IsFinite_any _ _).mono ?_; rintro e w' ⟨rfl, n, rfl⟩))
  go_ret
  exact ⟨rfl, _, rfl⟩
set_option maxHeartbeats 1000000 in
theorem IndexFunc_any (g : Nat) (p : Nat → Bool) (xs : List Nat) (v : Value) (w : World) (hs : FS w v xs) (hcf : ∀ x w', (callFunc g #[.float .f32 x]).run Try.prog w' = .ok (.enter g #[.float .f32 x]) w')
    (hg : ∀ j, j < xs.length → ∀ m, Calls Try.prog g #[.float .f32 (xs.getD j 0)] (w.drewN m) (RB (w.drewN m) (p (xs.getD j 0)))) :
    Calls Try.prog 110 #[v, .func (.func g) #[] #[]] w (RI w (findI p xs)) := by
  have HG := Lib.hid hg; clear hg
  obtain ⟨q, c, rfl, hc1, hc0, HV⟩ := FS_view hs
  have HV := Lib.hid HV
  clear hs
  go_enter Try.func110, Try.ntmps110
  go_wp2
  go_loopw [8] (fun t wr => ∃ k m : Nat, k ≤ xs.length ∧ t = .int .i64 k ∧ wr = w.drewN m ∧ Hid (∀ j, j < k → p (xs.getD j 0) = false)) (fun t _ => xs.length - (intOf t).toNat)
  case atStart => exact ⟨0, 0, Nat.zero_le _, rfl, rfl, fun j hj => by omega⟩
  case round =>
    obtain ⟨k, m, hk, rfl, rfl, hp⟩ := hrel
    by_cases hlt : k < xs.length
    · obtain ⟨b, o, rfl, hcell⟩ := HV.out k hlt
      clear HV
      generalize hx : xs.getD k 0 = x at hcell
      have Hx := Lib.hid hx; clear hx
      rcases hb : p x
      · go_wp2_with fail
        refine (Hx.out ▸ HG.out k hlt m).mono ?_
        rintro e w' ⟨rfl, n, rfl⟩
        go_wp2_with fail
        go_roundw
        case rel => exact ⟨k + 1, m + n, by omega, by go_num, by simp, fun j hj => by rcases Nat.lt_succ_iff_lt_or_eq.1 hj with h | rfl; exact hp j h; rw [Hx.out]; exact hb⟩
        case measure => simp [intOf]; omega
      · go_wp2_with fail
        refine (Hx.out ▸ HG.out k hlt m).mono ?_
        rintro e w' ⟨rfl, n, rfl⟩
        go_wp2_with fail
        go_ret
        exact ⟨by rw [findI_at p xs k hlt hp (by rw [Hx.out]; exact hb)]; rfl, m + n, by simp⟩
    · go_wp2
      go_ret
      exact ⟨by rw [findI_no p xs (fun j hj => hp.out j (by omega))]; rfl, m, rfl⟩
theorem findI_ge (p : Nat → Bool) (xs : List Nat) : decide (0 ≤ findI p xs) = xs.any p := by
  unfold findI
  cases h : xs.findIdx? p with
  | none =>
    have := List.findIdx?_eq_none_iff.1 h
    simp only [show ¬ (0 : Int) ≤ -1 by omega, decide_false]
    symm
    rw [List.any_eq_false]
    intro x hx
    simpa using this x hx
  | some i =>
    rw [List.findIdx?_eq_some_iff_getElem] at h
    obtain ⟨hi, hp, _⟩ := h
    simp only [show (0 : Int) ≤ (i : Int) by omega, decide_true]
    symm
    rw [List.any_eq_true]
    exact ⟨_, List.getElem_mem hi, hp⟩
set_option maxHeartbeats 400000 in
theorem ContainsFunc_any (g : Nat) (p : Nat → Bool) (xs : List Nat) (v : Value) (w : World) (hs : FS w v xs) (hcf : ∀ x w', (callFunc g #[.float .f32 x]).run Try.prog w' = .ok (.enter g #[.float .f32 x]) w')
    (hg : ∀ x m, Calls Try.prog g #[.float .f32 x] (w.drewN m) (RB (w.drewN m) (p x))) :
    Calls Try.prog 65 #[v, .func (.func g) #[] #[]] w (RB w (xs.any p)) := by
  have HC := Lib.hid hcf; clear hcf
  have HG := Lib.hid hg; clear hg
  have hq := findI_ge p xs
  go_enter Try.func65, Try.ntmps65
  go_wp2_with fail
  refine (IndexFunc_any g p xs v _ hs HC.out (fun j _ m => HG.out _ m)).mono ?_
  rintro e w' ⟨rfl, n, rfl⟩
  go_wp2_with fail
  go_ret
  exact ⟨rfl, _, rfl⟩
set_option maxHeartbeats 400000 in
theorem arePositive_any (xs : List Nat) (v : Value) (w : World) (hs : FS w v xs) :
    Calls Try.prog 64 #[v] w (RB w (!xs.any fun x => !fin .f32 (cn .f32 x) || fle .f32 (cn .f32 x) (cn .f32 0))) := by
  go_enter Try.func64, Try.ntmps64
  go_wp2_with fail
  refine (ContainsFunc_any 109 (fun x => !fin .f32 (cn .f32 x) || fle .f32 (cn .f32 x) (cn .f32 0)) xs v _ hs (fun x w' => by kernel_rfl) (fun x m => arePositive1_any x _)).mono ?_
  rintro e w' ⟨rfl, n, rfl⟩
  go_wp2_with fail
  go_ret
  exact ⟨rfl, _, rfl⟩
set_option maxHeartbeats 400000 in
theorem areFinite_any (xs : List Nat) (v : Value) (w : World) (hs : FS w v xs) :
    Calls Try.prog 77 #[v] w (RB w (!xs.any fun x => !fin .f32 (cn .f32 x))) := by
  go_enter Try.func77, Try.ntmps77
  go_wp2_with fail
  refine (ContainsFunc_any 111 (fun x => !fin .f32 (cn .f32 x)) xs v _ hs (fun x w' => by kernel_rfl) (fun x m => areFinite1_any x _)).mono ?_
  rintro e w' ⟨rfl, n, rfl⟩
  go_wp2_with fail
  go_ret
  exact ⟨rfl, _, rfl⟩
theorem order_self {k : FloatKind} {c : Nat} (h : isN k c = false) : k.format.order c c = some .eq := by
  unfold isN FloatKind.decode at h
  unfold Ieee.Format.order
  cases hd : k.format.read c with
  | nan => rw [hd] at h; cases h
  | infinity s => simp [Ieee.Datum.order, compare, compareOfLessAndEq]
  | number s m e => simp [Ieee.Datum.order, compare, compareOfLessAndEq]
theorem feq_self (k : FloatKind) (c : Nat) : feq k c c = !isN k c := by
  unfold feq
  cases h : isN k c with
  | true => rw [order_nan_l h]; rfl
  | false => rw [order_self h]; rfl
theorem feq_cn_self (k : FloatKind) (x : Nat) : feq k (cn k x) (cn k x) = !isN k x := by rw [feq_self, isN_cn]
end Go.Proofs.Ytjeeflldbhajiaa
set_option linter.unusedSimpArgs false
set_option linter.unusedVariables false
set_option linter.unusedSectionVars false
namespace Go.Proofs.Ytjeeflldbhajiaa
open Go Go.RowKit
@[go_sem] theorem size_drewN' (w : World) (n : Nat) : (w.drewN n).heap.size = w.heap.size := rfl
@[go_sem] theorem alloc_drewN (w : World) (n : Nat) (o : Obj) : (w.drewN n).alloc o = (w.alloc o).drewN n := rfl
@[go_sem] theorem setCell_drewN (w : World) (n : Nat) (a : Addr) (v : Value) : (w.drewN n).setCell a v = (w.setCell a v).drewN n := rfl
/-- These blocks are there. -/
def Trk (w : World) (L : List Nat) : Prop := ∀ b ∈ L, b < w.heap.size
theorem Trk.nil (w : World) : Trk w [] := fun b h => by cases h
theorem Trk.more {w : World} {L : List Nat} {b : Nat} (h : Trk w L) (hb : b < w.heap.size) : Trk w (b :: L) := fun c hc => by
  rcases List.mem_cons.1 hc with rfl | hc
  · exact hb
  · exact h c hc
theorem Trk.alloc {w : World} {L : List Nat} (h : Trk w L) (o : Obj) : Trk (w.alloc o) (w.heap.size :: L) := fun c hc => by
  rw [World.size_alloc]
  rcases List.mem_cons.1 hc with rfl | hc
  · omega
  · have := h c hc; omega
theorem Trk.setCell {w : World} {L : List Nat} (h : Trk w L) (a : Addr) (v : Value) : Trk (w.setCell a v) L := fun c hc => by rw [World.size_setCell]; exact h c hc
theorem Trk.drewN {w : World} {L : List Nat} (h : Trk w L) (n : Nat) : Trk (w.drewN n) L := h
theorem Trk.drew {w : World} {L : List Nat} (h : Trk w L) : Trk w.drew L := h
theorem Trk.drawn {w : World} {L : List Nat} (h : Trk w L) (n : Nat) : Trk { w with drawn := n } L := h
/-- They hold what they held. -/
def SameOn (w w' : World) : List Nat → Prop
  | [] => True
  | b :: L => ((b < w'.heap.size ∧ b ≠ w'.heap.size ∧ w'.heap.size ≠ b ∧ (∀ k, b ≠ w'.heap.size + k) ∧ (∀ k, w'.heap.size + k ≠ b)) ∧ (∀ o, w'.cell? ⟨b, o, none⟩ = w.cell? ⟨b, o, none⟩) ∧ (∀ o, w'.frozen? ⟨b, o, none⟩ = w.frozen? ⟨b, o, none⟩)) ∧ SameOn w w' L
theorem bv_next {w w' : World} (hb : Below w.heap.size w w') : ∀ {L : List Nat}, Trk w L → Trk w' L ∧ SameOn w w' L
  | [], _ => ⟨Trk.nil _, trivial⟩
  | b :: L, h => by
    have h0 : b < w.heap.size := h b (by simp)
    have h1 := hb.size
    obtain ⟨i1, i2⟩ := bv_next hb (L := L) (fun c hc => h c (by simp [hc]))
    exact ⟨i1.more (by omega), ⟨⟨by omega, by omega, by omega, fun k => by omega, fun k => by omega⟩, fun o => hb.cell h0, fun o => hb.frozen h0⟩, i2⟩
/-- What a function that makes memory hands back: a float, known but for a NaN's bits; a float and a bool. -/
def BF (w : World) (k : FloatKind) (c : Nat) (e : Ending) (w' : World) : Prop := ∃ r, e = .returned (.float k r) ∧ cn k r = c ∧ Below w.heap.size w w'
def BFB (w : World) (k : FloatKind) (c : Nat) (b : Bool) (e : Ending) (w' : World) : Prop := ∃ r, e = .returned (.tuple #[.float k r, .bool b]) ∧ cn k r = c ∧ Below w.heap.size w w'
theorem below_draws {w : World} (n : Nat) : Below w.heap.size w (w.drewN n) := below_drewN (Below.refl _ _) n
theorem RB.bv {w : World} {b : Bool} {e : Ending} {w' : World} (h : RB w b e w') : BV w (.bool b) e w' := by obtain ⟨rfl, n, rfl⟩ := h; exact ⟨rfl, below_draws _⟩
theorem RI.bv {w : World} {i : Int} {e : Ending} {w' : World} (h : RI w i e w') : BV w (.int .i64 i) e w' := by obtain ⟨rfl, n, rfl⟩ := h; exact ⟨rfl, below_draws _⟩
theorem RF.bf {w : World} {k : FloatKind} {c : Nat} {e : Ending} {w' : World} (h : RF w k c e w') : BF w k c e w' := by obtain ⟨r, rfl, hr, n, rfl⟩ := h; exact ⟨r, rfl, hr, below_draws _⟩
theorem RFB.bfb {w : World} {k : FloatKind} {c : Nat} {b : Bool} {e : Ending} {w' : World} (h : RFB w k c b e w') : BFB w k c b e w' := by obtain ⟨r, rfl, hr, n, rfl⟩ := h; exact ⟨r, rfl, hr, below_draws _⟩
/-- A float of a class, in a plan; a float and a bool. -/
def Clm.fl (k : FloatKind) (c : Nat) : Clm := ⟨1, fun _ v => ∃ r, v = .float k r ∧ cn k r = cn k c, fun _ _ _ => True, fun _ => ⟨_, c, rfl, rfl⟩, fun _ _ _ _ _ _ => trivial, fun h => nomatch h⟩
def Clm.flb (k : FloatKind) (c : Nat) (b : Bool) : Clm := ⟨1, fun _ v => ∃ r, v = .tuple #[.float k r, .bool b] ∧ cn k r = cn k c, fun _ _ _ => True, fun _ => ⟨_, c, rfl, rfl⟩, fun _ _ _ _ _ _ => trivial, fun h => nomatch h⟩
section
variable {P : Program} {ops : Array Oper} {Q : Exit → Act → World → Prop} {W : World}
variable {l : List Oper} {cs : List Clm} {i : Nat} {ks : List (Nat × (World → Prop))} {a : Act} {o : Oper}
theorem wpC_callF (k : FloatKind) (c : Nat) (hw : Region.wanted o (yielded ops a.tmps) = true) {f : FuncId} {args : Array Value} (h1 : ∀ w, (execOp a.eval o).run P w = .ok (.enter f args) w) (hcc : cn k c = c)
    (hc : ∀ w, Below W.heap.size W w → depK o ks w → Calls P f args w (BF w k c))
    (h : ∀ r, cn k r = c → wpC P ops Q W l cs (i + 1) ((i, fun _ => True) :: ks) (a.put o.dst (.float k r))) : wpC P ops Q W (o :: l) (Clm.fl k c :: cs) i ks a := by
  refine wpC_call (Clm.fl k c) rfl hw h1 (fun w hb hk => (hc w hb hk).mono ?_) ?_
  · rintro e w' ⟨r, rfl, hr, hbl⟩; exact ⟨_, rfl, hbl, ⟨r, rfl, by rw [hr, hcc]⟩, trivial⟩
  · rintro v ⟨r, rfl, hr⟩; exact h r (by rw [hr, hcc])
theorem wpC_callFB (k : FloatKind) (c : Nat) (b : Bool) (hw : Region.wanted o (yielded ops a.tmps) = true) {f : FuncId} {args : Array Value} (h1 : ∀ w, (execOp a.eval o).run P w = .ok (.enter f args) w) (hcc : cn k c = c)
    (hc : ∀ w, Below W.heap.size W w → depK o ks w → Calls P f args w (BFB w k c b))
    (h : ∀ r, cn k r = c → wpC P ops Q W l cs (i + 1) ((i, fun _ => True) :: ks) (a.put o.dst (.tuple #[.float k r, .bool b]))) : wpC P ops Q W (o :: l) (Clm.flb k c b :: cs) i ks a := by
  refine wpC_call (Clm.flb k c b) rfl hw h1 (fun w hb hk => (hc w hb hk).mono ?_) ?_
  · rintro e w' ⟨r, rfl, hr, hbl⟩; exact ⟨_, rfl, hbl, ⟨r, rfl, by rw [hr, hcc]⟩, trivial⟩
  · rintro v ⟨r, rfl, hr⟩; exact h r (by rw [hr, hcc])
/-- '-' of a float; 'float64(x)'. -/
def Clm.neg : Clm := ⟨0, fun x v => ∀ k p, x = [.float k p] → ∃ r, v = .float k r ∧ cn k r = fneg k (cn k p), fun _ _ _ => True,
  fun x => by
    by_cases h : ∃ k p, x = [.float k p]
    · obtain ⟨k, p, rfl⟩ := h
      refine ⟨.float k (Op.negFloat k p), fun k' p' e => ?_⟩
      simp only [List.cons.injEq, Value.float.injEq, and_true] at e
      obtain ⟨rfl, rfl⟩ := e
      exact ⟨_, rfl, cn_neg _ _⟩
    · exact ⟨undef, fun k p e => absurd ⟨k, p, e⟩ h⟩,
  fun _ _ _ _ _ _ => trivial, fun _ _ _ _ => trivial⟩
def Clm.wide : Clm := ⟨0, fun x v => ∀ p, x = [.float .f32 p] → ∃ r, v = .float .f64 r ∧ cn .f64 r = Go.Proofs.Ytjeeflldbhajiaa.wide (cn .f32 p), fun _ _ _ => True,
  fun x => by
    by_cases h : ∃ p, x = [.float .f32 p]
    · obtain ⟨p, rfl⟩ := h
      refine ⟨.float .f64 (Go.Proofs.Ytjeeflldbhajiaa.wide (cn .f32 p)), fun p' e => ?_⟩
      simp only [List.cons.injEq, Value.float.injEq, and_true, true_and] at e
      subst e
      exact ⟨_, rfl, cn_wide _⟩
    · exact ⟨undef, fun p e => absurd ⟨p, e⟩ h⟩,
  fun _ _ _ _ _ _ => trivial, fun _ _ _ _ => trivial⟩
theorem wpC_wide {src dst : TypeId} {X : Operand} (ho : o.op = .convert src dst X) {x : Nat} (hx : a.eval X = .float .f32 x) (hs : P.underlying src = some (.float .f32)) (hd : P.underlying dst = some (.float .f64)) (hw : Region.wanted o (yielded ops a.tmps) = true)
    (h : ∀ r, (∀ cx, cn .f32 x = cx → cn .f64 r = Go.Proofs.Ytjeeflldbhajiaa.wide cx) → wpC P ops Q W l cs (i + 1) ks (a.put o.dst (.float .f64 r))) : wpC P ops Q W (o :: l) (Clm.wide :: cs) i ks a := by
  have hl : o.op.operands.toList.map a.eval = [.float .f32 x] := by rw [ho]; simp [Op.operands, hx]
  simp only [wpC]
  rw [hl]
  refine ⟨.inl ⟨hw, fun _ w => ?_, fun h => absurd rfl h⟩, fun u hu => ?_⟩
  · obtain ⟨r, n, h1, h2⟩ := run_convF (P := P) .f32 .f64 (by decide) src dst x hs hd w (wide_fits x)
    have hr : (execOp a.eval o).run P w = .ok (.value (.float .f64 r)) (w.drewN n) := by
      simp only [execOp, ho, hx]
      simp [h1, Result.andThen]
    rw [hr, hl]
    refine ⟨⟨n, rfl⟩, fun p' e => ?_⟩
    simp only [List.cons.injEq, Value.float.injEq, and_true, true_and] at e
    subst e
    exact ⟨_, rfl, by rw [h2, wide_cn]; rfl⟩
  · obtain ⟨r, rfl, hr⟩ := hu x rfl
    exact h r (by rintro cx rfl; exact hr)
end
end Go.Proofs.Ytjeeflldbhajiaa
set_option linter.unusedSimpArgs false
set_option linter.unusedVariables false
set_option linter.unusedSectionVars false
namespace Go.Proofs.Ytjeeflldbhajiaa
open Go Go.RowKit
/-- Is a stuff valid. -/
def St.ok (s : St) : Bool := abv (cn .f32 s.a) && (abv (cn .f32 s.b) && (abv (cn .f32 s.c) && (abv (cn .f32 s.d) && (fin .f32 (cn .f32 s.p) && abv (cn .f32 s.l)))))
/-- A stuff's cells in memory. -/
def St.at (s : St) (w : World) (b o : Nat) : Prop := w.cell? ⟨b, o, none⟩ = some (.float .f32 s.a) ∧ w.cell? ⟨b, o + 1, none⟩ = some (.float .f32 s.b) ∧ w.cell? ⟨b, o + 2, none⟩ = some (.float .f32 s.c) ∧
  w.cell? ⟨b, o + 3, none⟩ = some (.float .f32 s.d) ∧ w.cell? ⟨b, o + 4, none⟩ = some (.float .f32 s.p) ∧ w.cell? ⟨b, o + 5, none⟩ = some (.float .f32 s.l)
theorem fin_not_nan {k : FloatKind} {c : Nat} (h : fin k c = true) : isN k c = false := by
  cases hn : isN k c with
  | false => rfl
  | true =>
    unfold fin fop at h
    rw [floatBits_nan_l hn] at h
    simp only [Option.getD_none, feq] at h
    rw [order_nan_l (isN_qn k)] at h
    cases h
theorem isN_lit (k : FloatKind) : isN k 0 = false := by cases k <;> decide +kernel
theorem cn_zero (k : FloatKind) : cn k 0 = 0 := cn_of_not (isN_lit k)
theorem order_total {k : FloatKind} {x y : Nat} (hx : isN k x = false) (hy : isN k y = false) : k.format.order x y ≠ none := by
  unfold isN FloatKind.decode at hx hy
  unfold Ieee.Format.order
  cases h1 : k.format.read x <;> rw [h1] at hx <;> cases h2 : k.format.read y <;> rw [h2] at hy <;> simp_all [Ieee.Datum.isNaN, Ieee.Datum.order]
theorem fle_not_fgt {k : FloatKind} {x y : Nat} (hx : isN k x = false) (hy : isN k y = false) : fle k x y = !fgt k x y := by
  unfold fle fgt
  cases h : k.format.order x y with
  | none => exact absurd h (order_total hx hy)
  | some o => cases o <;> rfl
theorem flt_not_fge {k : FloatKind} {x y : Nat} (hx : isN k x = false) (hy : isN k y = false) : flt k x y = !fge k x y := by
  unfold flt fge
  cases h : k.format.order x y with
  | none => exact absurd h (order_total hx hy)
  | some o => cases o <;> rfl
theorem abv_neg (c : Nat) : (!fin .f32 c || fle .f32 c (cn .f32 0)) = !abv c := by
  unfold abv
  cases h : fin .f32 c with
  | false => rfl
  | true => simp [fle_not_fgt (fin_not_nan h) (by rw [isN_cn]; exact isN_lit _)]
theorem FS_of {w : World} {b o n c : Nat} {xs : List Nat} (hn : xs.length = n) (hc : n ≤ c) (hm : c ≤ 9223372036854775807) (h : ∀ i, i < n → w.cell? ⟨b, o + i, none⟩ = some (.float .f32 (xs.getD i 0))) : FS w (.slice (some ⟨b, o, none⟩) n c) xs := by
  subst hn
  exact ⟨_, c, rfl, hm, hc, fun i hi => ⟨b, o, rfl, h i hi⟩⟩
set_option maxHeartbeats 1000000 in
theorem implValidStuff_any (s : St) (w : World) : Calls Try.prog 63 #[.agg #[.float .f32 s.a, .float .f32 s.b, .float .f32 s.c, .float .f32 s.d, .float .f32 s.p, .float .f32 s.l]] w (BV w (.bool s.ok)) := by
  have hq : (!([s.a, s.b, s.c, s.d, s.l].any fun x => !fin .f32 (cn .f32 x) || fle .f32 (cn .f32 x) (cn .f32 0))) = (abv (cn .f32 s.a) && (abv (cn .f32 s.b) && (abv (cn .f32 s.c) && (abv (cn .f32 s.d) && abv (cn .f32 s.l))))) := by
    simp only [abv_neg, List.any_cons, List.any_nil]
    cases abv (cn .f32 s.a) <;> cases abv (cn .f32 s.b) <;> cases abv (cn .f32 s.c) <;> cases abv (cn .f32 s.d) <;> cases abv (cn .f32 s.l) <;> rfl
  have H := Lib.hid (fun v w hs => (hq ▸ arePositive_any [s.a, s.b, s.c, s.d, s.l] v w hs : Calls Try.prog 64 #[v] w (RB w _)))
  clear hq
  rcases g : (abv (cn .f32 s.a) && (abv (cn .f32 s.b) && (abv (cn .f32 s.c) && (abv (cn .f32 s.d) && abv (cn .f32 s.l)))))
  all_goals
    rw [g] at H
    have Hg := Lib.hid g
    clear g
    go_enter Try.func63, Try.ntmps63
    go_wp2_with fail
    refine (H.out _ _ (FS_of (n := 5) (c := 5) rfl (by omega) (by omega) ?_)).mono ?_
    · intro i hi
      rcases (show i = 0 ∨ i = 1 ∨ i = 2 ∨ i = 3 ∨ i = 4 by omega) with rfl | rfl | rfl | rfl | rfl <;> go_simp
    rintro e w' ⟨rfl, n, rfl⟩
    go_wp2_with (first | (with_reducible refine at_list ?_; refine wpList_fop rfl rfl rfl rfl rfl ?_; intro r n hr0; have hr := hr0 _ _ (by first | with_reducible assumption | exact rfl) (by first | with_reducible assumption | exact rfl); clear hr0) | (with_reducible refine at_list ?_; refine wpList_neg rfl rfl rfl ?_; intro r hr0; have hr := hr0 _ (by first | with_reducible assumption | exact rfl); clear hr0) | (with_reducible refine at_list ?_; refine wpList_fop_g rfl rfl rfl rfl rfl ?_; intro r n hr0; have hr := hr0 _ _ (by first | with_reducible assumption | exact rfl) (by first | with_reducible assumption | exact rfl); clear hr0) | (with_reducible refine at_list ?_; refine wpList_wide_g rfl rfl Try.underlying22 Try.underlying40 rfl ?_; intro r n hr0; have hr := hr0 _ (by first | with_reducible assumption | exact rfl); clear hr0) | (with_reducible refine at_list ?_; refine wpList_wide rfl rfl rfl Try.underlying22 Try.underlying40 ?_; intro r n hr0; have hr := hr0 _ (by first | with_reducible assumption | exact rfl); clear hr0) | (go_at_call 67; refine (IsFinite_any _ _).mono ?_; rintro e w' ⟨rfl, n, rfl⟩))
    go_ret
    refine ⟨?_, by (repeat (first | (with_reducible exact Below.refl _ _) | (with_reducible assumption) | (with_reducible refine below_then ?_ (by assumption)) | (with_reducible refine Below.trans ?_ (by assumption)) | (with_reducible refine below_drewN ?_ _) | (with_reducible apply Below.drew) | (with_reducible refine below_alloc ?_ _) | refine Below.setCell ?_ (by first | (simp; done) | (simp; omega)) _))⟩
    have g := Hg.out
    simp only [St.ok]
    revert g
    cases abv (cn .f32 s.a) <;> cases abv (cn .f32 s.b) <;> cases abv (cn .f32 s.c) <;> cases abv (cn .f32 s.d) <;> cases abv (cn .f32 s.l) <;> simp
end Go.Proofs.Ytjeeflldbhajiaa
set_option linter.unusedSimpArgs false
set_option linter.unusedVariables false
set_option linter.unusedSectionVars false
namespace Go.Proofs.Ytjeeflldbhajiaa
open Go Go.RowKit
/-- A stuff, all NaNs taken as one. -/
def St.k (s : St) : St := ⟨cn .f32 s.a, cn .f32 s.b, cn .f32 s.c, cn .f32 s.d, cn .f32 s.p, cn .f32 s.l⟩
def warmC (s : St) (h : Nat) : Nat := if flt .f32 h (cn .f32 0) then fop .add .f32 s.p (fop .quo .f32 h s.a) else if fgt .f32 h s.l then fop .add .f32 s.p (fop .quo .f32 (fop .sub .f32 h s.l) s.b) else s.p
def partC (s : St) (h : Nat) : Nat := if flt .f32 h (cn .f32 0) then cn .f32 0 else if fgt .f32 h s.l then cn .f32 1065353216 else fop .quo .f32 h s.l
def easeC (s : St) (h : Nat) : Nat := fop .add .f32 s.c (fop .mul .f32 (partC s h) (fop .sub .f32 s.d s.c))
def heatC (s : St) (x p : Nat) : Nat := if flt .f32 x s.p then fop .mul .f32 s.a (fop .sub .f32 x s.p) else if fgt .f32 x s.p then fop .add .f32 s.l (fop .mul .f32 s.b (fop .sub .f32 x s.p)) else fop .mul .f32 p s.l
theorem cn_warmC (s : St) (h : Nat) : cn .f32 (warmC s.k h) = warmC s.k h := by unfold warmC; split; exact cn_fop _ _ _ _; split; exact cn_fop _ _ _ _; exact cn_cn _ _
theorem cn_partC (s : St) (h : Nat) : cn .f32 (partC s h) = partC s h := by unfold partC; split; exact cn_cn _ _; split; exact cn_cn _ _; exact cn_fop _ _ _ _
theorem cn_easeC (s : St) (h : Nat) : cn .f32 (easeC s h) = easeC s h := cn_fop _ _ _ _
set_option maxHeartbeats 1000000 in
theorem warmOf_any (s : St) (x : Nat) (w : World) : Calls Try.prog 68 #[.agg #[.float .f32 s.a, .float .f32 s.b, .float .f32 s.c, .float .f32 s.d, .float .f32 s.p, .float .f32 s.l], .float .f32 x] w (BF w .f32 (warmC s.k (cn .f32 x))) := by
  go_enter Try.func68, Try.ntmps68
  go_wp2_with (first | (with_reducible refine at_list ?_; refine wpList_fop rfl rfl rfl rfl rfl ?_; intro r n hr0; have hr := hr0 _ _ (by first | with_reducible assumption | exact rfl) (by first | with_reducible assumption | exact rfl); clear hr0) | (with_reducible refine at_list ?_; refine wpList_neg rfl rfl rfl ?_; intro r hr0; have hr := hr0 _ (by first | with_reducible assumption | exact rfl); clear hr0) | (with_reducible refine at_list ?_; refine wpList_fop_g rfl rfl rfl rfl rfl ?_; intro r n hr0; have hr := hr0 _ _ (by first | with_reducible assumption | exact rfl) (by first | with_reducible assumption | exact rfl); clear hr0) | (with_reducible refine at_list ?_; refine wpList_wide_g rfl rfl Try.underlying22 Try.underlying40 rfl ?_; intro r n hr0; have hr := hr0 _ (by first | with_reducible assumption | exact rfl); clear hr0) | (with_reducible refine at_list ?_; refine wpList_wide rfl rfl rfl Try.underlying22 Try.underlying40 ?_; intro r n hr0; have hr := hr0 _ (by first | with_reducible assumption | exact rfl); clear hr0))
  all_goals
    go_ret
    exact ⟨_, rfl, by simp [warmC, St.k, *], by (repeat (first | (with_reducible exact Below.refl _ _) | (with_reducible assumption) | (with_reducible refine below_then ?_ (by assumption)) | (with_reducible refine Below.trans ?_ (by assumption)) | (with_reducible refine below_drewN ?_ _) | (with_reducible apply Below.drew) | (with_reducible refine below_alloc ?_ _) | refine Below.setCell ?_ (by first | (simp; done) | (simp; omega)) _))⟩
set_option maxHeartbeats 1000000 in
theorem partOf_any (s : St) (x : Nat) (w : World) : Calls Try.prog 74 #[.agg #[.float .f32 s.a, .float .f32 s.b, .float .f32 s.c, .float .f32 s.d, .float .f32 s.p, .float .f32 s.l], .float .f32 x] w (BF w .f32 (partC s.k (cn .f32 x))) := by
  go_enter Try.func74, Try.ntmps74
  go_wp2_with (first | (with_reducible refine at_list ?_; refine wpList_fop rfl rfl rfl rfl rfl ?_; intro r n hr0; have hr := hr0 _ _ (by first | with_reducible assumption | exact rfl) (by first | with_reducible assumption | exact rfl); clear hr0) | (with_reducible refine at_list ?_; refine wpList_neg rfl rfl rfl ?_; intro r hr0; have hr := hr0 _ (by first | with_reducible assumption | exact rfl); clear hr0) | (with_reducible refine at_list ?_; refine wpList_fop_g rfl rfl rfl rfl rfl ?_; intro r n hr0; have hr := hr0 _ _ (by first | with_reducible assumption | exact rfl) (by first | with_reducible assumption | exact rfl); clear hr0) | (with_reducible refine at_list ?_; refine wpList_wide_g rfl rfl Try.underlying22 Try.underlying40 rfl ?_; intro r n hr0; have hr := hr0 _ (by first | with_reducible assumption | exact rfl); clear hr0) | (with_reducible refine at_list ?_; refine wpList_wide rfl rfl rfl Try.underlying22 Try.underlying40 ?_; intro r n hr0; have hr := hr0 _ (by first | with_reducible assumption | exact rfl); clear hr0))
  all_goals
    go_ret
    exact ⟨_, rfl, by simp [partC, St.k, *], by (repeat (first | (with_reducible exact Below.refl _ _) | (with_reducible assumption) | (with_reducible refine below_then ?_ (by assumption)) | (with_reducible refine Below.trans ?_ (by assumption)) | (with_reducible refine below_drewN ?_ _) | (with_reducible apply Below.drew) | (with_reducible refine below_alloc ?_ _) | refine Below.setCell ?_ (by first | (simp; done) | (simp; omega)) _))⟩
set_option maxHeartbeats 1000000 in
theorem easeOf_any (s : St) (x : Nat) (w : World) : Calls Try.prog 79 #[.agg #[.float .f32 s.a, .float .f32 s.b, .float .f32 s.c, .float .f32 s.d, .float .f32 s.p, .float .f32 s.l], .float .f32 x] w (BF w .f32 (easeC s.k (cn .f32 x))) := by
  go_enter Try.func79, Try.ntmps79
  go_wp2_with (first | (with_reducible refine at_list ?_; refine wpList_fop rfl rfl rfl rfl rfl ?_; intro r n hr0; have hr := hr0 _ _ (by first | with_reducible assumption | exact rfl) (by first | with_reducible assumption | exact rfl); clear hr0) | (with_reducible refine at_list ?_; refine wpList_neg rfl rfl rfl ?_; intro r hr0; have hr := hr0 _ (by first | with_reducible assumption | exact rfl); clear hr0) | (with_reducible refine at_list ?_; refine wpList_fop_g rfl rfl rfl rfl rfl ?_; intro r n hr0; have hr := hr0 _ _ (by first | with_reducible assumption | exact rfl) (by first | with_reducible assumption | exact rfl); clear hr0) | (with_reducible refine at_list ?_; refine wpList_wide_g rfl rfl Try.underlying22 Try.underlying40 rfl ?_; intro r n hr0; have hr := hr0 _ (by first | with_reducible assumption | exact rfl); clear hr0) | (with_reducible refine at_list ?_; refine wpList_wide rfl rfl rfl Try.underlying22 Try.underlying40 ?_; intro r n hr0; have hr := hr0 _ (by first | with_reducible assumption | exact rfl); clear hr0) | (go_at_call 74; refine (partOf_any _ _ _).mono ?_; rintro e w' ⟨r, rfl, hr, hb⟩; obtain ⟨hT, hk⟩ := bv_next hb (by (repeat (with_reducible first | assumption | apply Trk.alloc | apply Trk.setCell | apply Trk.drewN | apply Trk.drew | exact Trk.nil _))); simp only [SameOn, World.size_alloc, World.size_setCell, World.size_drew, size_drewN', and_true] at hk; have hsz := Below.size hb; (try simp only [World.size_alloc, World.size_setCell, World.size_drew, size_drewN'] at hsz)))
  all_goals (try ((first | (apply wp_region_plan; ((apply wpC_det; (case hw => exact rfl); (case hs => (intro cs b h; cases h)); (case h1 => (intro w'; go_simp <;> exact rfl))); apply wpC_norm; (case ha => (simp only [Act.put, List.setIfInBounds_toArray, List.set_cons_zero, List.set_cons_succ]; exact rfl))); ((apply wpC_val; (case hw => exact rfl); (case h1 => (intro w' hb hk0; obtain ⟨hT, hk⟩ := bv_next hb (by (repeat (with_reducible first | assumption | apply Trk.alloc | apply Trk.setCell | apply Trk.drewN | apply Trk.drew | exact Trk.nil _))); simp only [SameOn, World.size_alloc, World.size_setCell, World.size_drew, size_drewN', and_true] at hk; have hsz := Below.size hb; (try simp only [World.size_alloc, World.size_setCell, World.size_drew, size_drewN'] at hsz); go_simp <;> exact rfl))); apply wpC_norm; (case ha => (simp only [Act.put, List.setIfInBounds_toArray, List.set_cons_zero, List.set_cons_succ]; exact rfl))); ((apply wpC_val; (case hw => exact rfl); (case h1 => (intro w' hb hk0; obtain ⟨hT, hk⟩ := bv_next hb (by (repeat (with_reducible first | assumption | apply Trk.alloc | apply Trk.setCell | apply Trk.drewN | apply Trk.drew | exact Trk.nil _))); simp only [SameOn, World.size_alloc, World.size_setCell, World.size_drew, size_drewN', and_true] at hk; have hsz := Below.size hb; (try simp only [World.size_alloc, World.size_setCell, World.size_drew, size_drewN'] at hsz); go_simp <;> exact rfl))); apply wpC_norm; (case ha => (simp only [Act.put, List.setIfInBounds_toArray, List.set_cons_zero, List.set_cons_succ]; exact rfl))); ((apply wpC_det; (case hw => exact rfl); (case hs => (intro cs b h; cases h)); (case h1 => (intro w'; go_simp <;> exact rfl))); apply wpC_norm; (case ha => (simp only [Act.put, List.setIfInBounds_toArray, List.set_cons_zero, List.set_cons_succ]; exact rfl))); ((apply wpC_callF _ _; ((case hw => exact rfl)); (case h1 => (intro w'; go_simp; exact ⟨rfl, rfl⟩)); (case hc => (intro w' hb hk0; obtain ⟨hT, hk⟩ := bv_next hb (by (repeat (with_reducible first | assumption | apply Trk.alloc | apply Trk.setCell | apply Trk.drewN | apply Trk.drew | exact Trk.nil _))); simp only [SameOn, World.size_alloc, World.size_setCell, World.size_drew, size_drewN', and_true] at hk; have hsz := Below.size hb; (try simp only [World.size_alloc, World.size_setCell, World.size_drew, size_drewN'] at hsz); refine (partOf_any _ _ _).mono ?_; intro e2 w3 h; (try simp only [*] at h); exact h)); (case hcc => (first | (with_reducible first | assumption | exact cn_fop _ _ _ _ | exact cn_cn _ _ | exact cn_wide _ | exact cn_narrow _ | exact cn_accC .. | exact cn_heatC .. | exact cn_half .. | exact cn_bet .. | exact cn_end .. | exact cn_erV .. | exact cn_exV .. | exact cn_slopeV .. | exact cn_rootC .. | exact cn_stF .. | exact cn_warmC .. | exact cn_partC .. | exact cn_easeC .. | exact cn_growC .. | exact cn_mostV .. | exact cn_passV .. | exact cn_flowL .. | exact cn_flowV .. | exact cn_fV .. | exact cn_heldA .. | exact cn_gainA .. | exact cn_meanV .. | exact cn_sqC ..) | (refine cn_chk ?_; (with_reducible first | assumption | exact cn_fop _ _ _ _ | exact cn_cn _ _ | exact cn_wide _ | exact cn_narrow _ | exact cn_accC .. | exact cn_heatC .. | exact cn_half .. | exact cn_bet .. | exact cn_end .. | exact cn_erV .. | exact cn_exV .. | exact cn_slopeV .. | exact cn_rootC .. | exact cn_stF .. | exact cn_warmC .. | exact cn_partC .. | exact cn_easeC .. | exact cn_growC .. | exact cn_mostV .. | exact cn_passV .. | exact cn_flowL .. | exact cn_flowV .. | exact cn_fV .. | exact cn_heldA .. | exact cn_gainA .. | exact cn_meanV .. | exact cn_sqC ..)) | (refine cn_gF ?_; (with_reducible first | assumption | exact cn_fop _ _ _ _ | exact cn_cn _ _ | exact cn_wide _ | exact cn_narrow _ | exact cn_accC .. | exact cn_heatC .. | exact cn_half .. | exact cn_bet .. | exact cn_end .. | exact cn_erV .. | exact cn_exV .. | exact cn_slopeV .. | exact cn_rootC .. | exact cn_stF .. | exact cn_warmC .. | exact cn_partC .. | exact cn_easeC .. | exact cn_growC .. | exact cn_mostV .. | exact cn_passV .. | exact cn_flowL .. | exact cn_flowV .. | exact cn_fV .. | exact cn_heldA .. | exact cn_gainA .. | exact cn_meanV .. | exact cn_sqC ..)))); intro r hr); apply wpC_norm; (case ha => (simp only [Act.put, List.setIfInBounds_toArray, List.set_cons_zero, List.set_cons_succ]; exact rfl))); ((apply wpC_det; (case hw => exact rfl); (case hs => (intro cs b h; cases h)); (case h1 => (intro w'; go_simp <;> exact rfl))); apply wpC_norm; (case ha => (simp only [Act.put, List.setIfInBounds_toArray, List.set_cons_zero, List.set_cons_succ]; exact rfl))); ((apply wpC_val; (case hw => exact rfl); (case h1 => (intro w' hb hk0; obtain ⟨hT, hk⟩ := bv_next hb (by (repeat (with_reducible first | assumption | apply Trk.alloc | apply Trk.setCell | apply Trk.drewN | apply Trk.drew | exact Trk.nil _))); simp only [SameOn, World.size_alloc, World.size_setCell, World.size_drew, size_drewN', and_true] at hk; have hsz := Below.size hb; (try simp only [World.size_alloc, World.size_setCell, World.size_drew, size_drewN'] at hsz); go_simp <;> exact rfl))); apply wpC_norm; (case ha => (simp only [Act.put, List.setIfInBounds_toArray, List.set_cons_zero, List.set_cons_succ]; exact rfl))); ((apply wpC_det; (case hw => exact rfl); (case hs => (intro cs b h; cases h)); (case h1 => (intro w'; go_simp <;> exact rfl))); apply wpC_norm; (case ha => (simp only [Act.put, List.setIfInBounds_toArray, List.set_cons_zero, List.set_cons_succ]; exact rfl))); ((apply wpC_val; (case hw => exact rfl); (case h1 => (intro w' hb hk0; obtain ⟨hT, hk⟩ := bv_next hb (by (repeat (with_reducible first | assumption | apply Trk.alloc | apply Trk.setCell | apply Trk.drewN | apply Trk.drew | exact Trk.nil _))); simp only [SameOn, World.size_alloc, World.size_setCell, World.size_drew, size_drewN', and_true] at hk; have hsz := Below.size hb; (try simp only [World.size_alloc, World.size_setCell, World.size_drew, size_drewN'] at hsz); go_simp <;> exact rfl))); apply wpC_norm; (case ha => (simp only [Act.put, List.setIfInBounds_toArray, List.set_cons_zero, List.set_cons_succ]; exact rfl))); ((apply wpC_fop rfl rfl rfl rfl rfl; intro r hr0; have hr := hr0 _ _ (by first | with_reducible assumption | exact rfl) (by first | with_reducible assumption | exact rfl); clear hr0); apply wpC_norm; (case ha => (simp only [Act.put, List.setIfInBounds_toArray, List.set_cons_zero, List.set_cons_succ]; exact rfl))); ((apply wpC_fop rfl rfl rfl rfl rfl; intro r hr0; have hr := hr0 _ _ (by first | with_reducible assumption | exact rfl) (by first | with_reducible assumption | exact rfl); clear hr0); apply wpC_norm; (case ha => (simp only [Act.put, List.setIfInBounds_toArray, List.set_cons_zero, List.set_cons_succ]; exact rfl))); ((apply wpC_fop rfl rfl rfl rfl rfl; intro r hr0; have hr := hr0 _ _ (by first | with_reducible assumption | exact rfl) (by first | with_reducible assumption | exact rfl); clear hr0); apply wpC_norm; (case ha => (simp only [Act.put, List.setIfInBounds_toArray, List.set_cons_zero, List.set_cons_succ]; exact rfl))); ((apply wpC_det; (case hw => exact rfl); (case hs => (intro cs b h; cases h)); (case h1 => (intro w'; go_simp <;> exact rfl))); apply wpC_norm; (case ha => (simp only [Act.put, List.setIfInBounds_toArray, List.set_cons_zero, List.set_cons_succ]; exact rfl))); refine wpC_nil ?_; intro w' hb hkk; obtain ⟨hT, hk⟩ := bv_next hb (by (repeat (with_reducible first | assumption | apply Trk.alloc | apply Trk.setCell | apply Trk.drewN | apply Trk.drew | exact Trk.nil _))); simp only [SameOn, World.size_alloc, World.size_setCell, World.size_drew, size_drewN', and_true] at hk; have hsz := Below.size hb; (try simp only [World.size_alloc, World.size_setCell, World.size_drew, size_drewN'] at hsz))); go_wp2_with (first | (with_reducible refine at_list ?_; refine wpList_fop rfl rfl rfl rfl rfl ?_; intro r n hr0; have hr := hr0 _ _ (by first | with_reducible assumption | exact rfl) (by first | with_reducible assumption | exact rfl); clear hr0) | (with_reducible refine at_list ?_; refine wpList_neg rfl rfl rfl ?_; intro r hr0; have hr := hr0 _ (by first | with_reducible assumption | exact rfl); clear hr0) | (with_reducible refine at_list ?_; refine wpList_fop_g rfl rfl rfl rfl rfl ?_; intro r n hr0; have hr := hr0 _ _ (by first | with_reducible assumption | exact rfl) (by first | with_reducible assumption | exact rfl); clear hr0) | (with_reducible refine at_list ?_; refine wpList_wide_g rfl rfl Try.underlying22 Try.underlying40 rfl ?_; intro r n hr0; have hr := hr0 _ (by first | with_reducible assumption | exact rfl); clear hr0) | (with_reducible refine at_list ?_; refine wpList_wide rfl rfl rfl Try.underlying22 Try.underlying40 ?_; intro r n hr0; have hr := hr0 _ (by first | with_reducible assumption | exact rfl); clear hr0) | (go_at_call 74; refine (partOf_any _ _ _).mono ?_; rintro e w' ⟨r, rfl, hr, hb⟩; obtain ⟨hT, hk⟩ := bv_next hb (by (repeat (with_reducible first | assumption | apply Trk.alloc | apply Trk.setCell | apply Trk.drewN | apply Trk.drew | exact Trk.nil _))); simp only [SameOn, World.size_alloc, World.size_setCell, World.size_drew, size_drewN', and_true] at hk; have hsz := Below.size hb; (try simp only [World.size_alloc, World.size_setCell, World.size_drew, size_drewN'] at hsz)))))
  all_goals (try (first | kernel_rfl | rfl))
  all_goals
    go_ret
    exact ⟨_, rfl, by simp [easeC, St.k, *], by (repeat (first | (with_reducible exact Below.refl _ _) | (with_reducible assumption) | (with_reducible refine below_then ?_ (by assumption)) | (with_reducible refine Below.trans ?_ (by assumption)) | (with_reducible refine below_drewN ?_ _) | (with_reducible apply Below.drew) | (with_reducible refine below_alloc ?_ _) | refine Below.setCell ?_ (by first | (simp; done) | (simp; omega)) _))⟩
end Go.Proofs.Ytjeeflldbhajiaa
set_option linter.unusedSimpArgs false
set_option linter.unusedVariables false
set_option linter.unusedSectionVars false
namespace Go.Proofs.Ytjeeflldbhajiaa
open Go Go.RowKit
/-- A number if all is valid and it is finite. -/
def gF (ok : Bool) (c : Nat) : Nat := if ok then chk c else cn .f32 0
def gB (ok : Bool) (c : Nat) : Bool := ok && fin .f32 c
theorem cn_chk {c : Nat} (h : cn .f32 c = c) : cn .f32 (chk c) = chk c := by unfold chk; split; exact h; exact cn_cn .f32 0
theorem cn_gF {ok : Bool} {c : Nat} (h : cn .f32 c = c) : cn .f32 (gF ok c) = gF ok c := by unfold gF; split; exact cn_chk h; exact cn_cn .f32 0
/-- Is a datum a number. -/
def isNum : Ieee.Datum → Bool | .number .. => true | _ => false
theorem fin_num (k : FloatKind) (c : Nat) : fin k c = isNum (k.decode c) := by
  unfold fin fop floatBits Ieee.Format.sub
  show feq k (((((k.decode c).sum (k.decode c).opposite).map k.format.write).getD (qn k))) (cn k 0) = _
  rw [cn_zero]
  cases hd : k.decode c with
  | nan s t =>
    simp only [Ieee.Datum.sum, Ieee.Datum.opposite, Option.map_none, Option.getD_none, isNum, feq]
    rw [order_nan_l (isN_qn k)]; rfl
  | infinity s =>
    have : (Ieee.Datum.infinity s).sum (Ieee.Datum.infinity s).opposite = none := by cases s <;> rfl
    rw [this]
    simp only [Option.map_none, Option.getD_none, isNum, feq]
    rw [order_nan_l (isN_qn k)]; rfl
  | number s m i =>
    have : (Ieee.Datum.number s m i).sum (Ieee.Datum.number s m i).opposite = some (.number false 0 (min i i)) := by
      simp only [Ieee.Datum.sum, Ieee.Datum.opposite]
      have h0 : Ieee.signed s m (i - min i i).toNat + Ieee.signed (!s) m (i - min i i).toNat = 0 := by
        cases s <;> simp [Ieee.signed] <;> omega
      rw [h0]
      cases s <;> rfl
    rw [this]
    have hw : k.format.write (.number false 0 (min i i)) = 0 := by
      simp [Ieee.Format.write, Ieee.Format.nearest, Ieee.Format.word]
    simp only [Option.map_some, Option.getD_some, hw, isNum, feq]
    rw [order_self (isN_lit k)]; rfl
theorem fin_decode {k : FloatKind} {c : Nat} (h : fin k c = true) : ∃ s m i, k.decode c = .number s m i := by
  rw [fin_num] at h
  cases hd : k.decode c <;> rw [hd] at h <;> first | exact ⟨_, _, _, rfl⟩ | cases h
theorem read_zero (k : FloatKind) : ∃ p, k.format.read 0 = .number false 0 p := by cases k <;> exact ⟨_, rfl⟩
theorem shr_fin (c : Nat) : shr c = (fin .f32 c && (!flt .f32 c (cn .f32 0) && !fgt .f32 c (cn .f32 1065353216))) := by
  have h1 : isN .f32 1065353216 = false := by decide +kernel
  have e1 : cn .f32 1065353216 = 1065353216 := cn_of_not h1
  unfold shr
  rw [cn_zero, e1]
  rcases hf : fin .f32 c
  · rw [fin_num] at hf
    have r1 : FloatKind.f32.format.read 1065353216 = .number false 8388608 (-23) := by decide +kernel
    obtain ⟨p0, r0⟩ := read_zero .f32
    have hd : FloatKind.f32.format.read c = FloatKind.f32.decode c := rfl
    unfold fge fle Ieee.Format.order
    rw [r0, r1, hd]
    cases hd : FloatKind.f32.decode c with
    | nan s t => rfl
    | infinity s => cases s <;> rfl
    | number s m i => rw [hd] at hf; cases hf
  · have hn := fin_not_nan hf
    rw [flt_not_fge hn (isN_lit .f32), fle_not_fgt hn h1]
    simp
theorem FS1 {w : World} {b x : Nat} (h : w.cell? ⟨b, 0, none⟩ = some (.float .f32 x)) : FS w (.slice (some ⟨b, 0, none⟩) 1 1) [x] := by
  refine FS_of (o := 0) (n := 1) (c := 1) rfl (by omega) (by omega) fun i hi => ?_
  obtain rfl : i = 0 := by omega
  exact h
theorem FS2 {w : World} {b x y : Nat} (h : w.cell? ⟨b, 0, none⟩ = some (.float .f32 x)) (h2 : w.cell? ⟨b, 1, none⟩ = some (.float .f32 y)) : FS w (.slice (some ⟨b, 0, none⟩) 2 2) [x, y] := by
  refine FS_of (o := 0) (n := 2) (c := 2) rfl (by omega) (by omega) fun i hi => ?_
  rcases (show i = 0 ∨ i = 1 by omega) with rfl | rfl
  · exact h
  · exact h2
theorem arePos1_any (x : Nat) (v : Value) (w : World) (hs : FS w v [x]) : Calls Try.prog 64 #[v] w (RB w (abv (cn .f32 x))) := by
  have h := arePositive_any [x] v w hs
  simp only [abv_neg, List.any_cons, List.any_nil, Bool.or_false, Bool.not_not] at h
  exact h
theorem areFin2_any (x y : Nat) (v : Value) (w : World) (hs : FS w v [x, y]) : Calls Try.prog 77 #[v] w (RB w (fin .f32 (cn .f32 x) && fin .f32 (cn .f32 y))) := by
  have h := areFinite_any [x, y] v w hs
  simp only [List.any_cons, List.any_nil, Bool.or_false, Bool.not_not, Bool.not_or] at h
  exact h
end Go.Proofs.Ytjeeflldbhajiaa
set_option linter.unusedSimpArgs false
set_option linter.unusedVariables false
set_option linter.unusedSectionVars false
namespace Go.Proofs.Ytjeeflldbhajiaa
open Go Go.RowKit
theorem FS.later {w w' : World} {v : Value} {xs : List Nat} (h : FS w v xs) (hb : Below w.heap.size w w') : FS w' v xs := by
  obtain ⟨p, c, rfl, h1, h2, h3⟩ := h
  refine ⟨p, c, rfl, h1, h2, fun i hi => ?_⟩
  obtain ⟨b, o, rfl, hc⟩ := h3 i hi
  exact ⟨b, o, rfl, cell_later hb hc⟩
theorem FS.drew {w : World} {v : Value} {xs : List Nat} (h : FS w v xs) (n : Nat) : FS (w.drewN n) v xs := h
end Go.Proofs.Ytjeeflldbhajiaa
set_option linter.unusedSimpArgs false
set_option linter.unusedVariables false
set_option linter.unusedSectionVars false
namespace Go.Proofs.Ytjeeflldbhajiaa
open Go Go.RowKit
set_option maxRecDepth 100000 in
theorem Try.infoF32 : (Try.prog.info? 22).map (fun i => (i.zero, i.size, i.bytes)) = some (some (.float .f32 0), 1, 4) := by kernel_rfl
/-- A slice of numbers that the call itself has made, from block number B on. -/
def OF (B : Nat) (w : World) (u : Value) (xs : List Nat) : Prop := w.ownsRow B 22 1 u xs.length (xs.map (Value.float .f32))
theorem OF.block {B : Nat} {w : World} {u : Value} {xs : List Nat} (h : OF B w u xs) : ∀ k, u.ownBlock = some k → B ≤ k ∧ k < w.heap.size := World.ownsRow.lt h
theorem OF.kept {B : Nat} {w w' : World} {u : Value} {xs : List Nat} {row : Option Nat} (h : OF B w u xs) (hg : w.grownBy w' row) (hne : u.ownBlock = none ∨ u.ownBlock ≠ row) : OF B w' u xs := World.ownsRow.kept h hg hne
theorem below_grown {w w' : World} (h : Below w.heap.size w w') (row : Option Nat) : w.grownBy w' row := ⟨h.os, h.tape, h.output, h.size, fun k hk _ => h.block k hk⟩
theorem OF.later {B : Nat} {w w' : World} {u : Value} {xs : List Nat} (h : OF B w u xs) (hb : Below w.heap.size w w') : OF B w' u xs := by
  cases hu : u.ownBlock with
  | none => exact h.kept (below_grown hb none) (.inl hu)
  | some k => exact h.kept (below_grown hb none) (.inr (by rw [hu]; simp))
theorem OF.base {B B' : Nat} {w : World} {u : Value} {xs : List Nat} (h : OF B w u xs) (hB : B' ≤ B) : OF B' w u xs := by
  refine ⟨h.1, ?_⟩
  rcases h.2 with h2 | ⟨g, c, cur, r1, r2, r⟩
  · exact .inl h2
  · exact .inr ⟨g, c, cur, r1, by omega, r⟩
/-- An own slice, seen. -/
theorem OF.view {B : Nat} {w : World} {u : Value} {xs : List Nat} (h : OF B w u xs) : (u = .slice none 0 0 ∧ xs = []) ∨ ∃ g c, u = .slice (some ⟨g, 0, none⟩) xs.length c ∧ B ≤ g ∧ g < w.heap.size ∧ xs.length ≤ c ∧ c ≤ maxLen ∧ ∀ j, j < xs.length → w.cell? ⟨g, j, none⟩ = some (.float .f32 (xs.getD j 0)) ∧ w.frozen? ⟨g, j, none⟩ = false := by
  rcases h.2 with ⟨h1, h2⟩ | ⟨g, c, cur, h1, h2, h3, h4, h5, _⟩
  · exact .inl ⟨h1, by simpa using h2⟩
  · subst h1
    refine .inr ⟨g, c, rfl, h2, (OF.block h g rfl).2, h4, h5, fun j hj => ⟨?_, World.ownsRow.frozenAt h j⟩⟩
    have := World.ownsRow.cellAt h j (by simpa using hj)
    rw [this]
    simp [hj]
theorem OF.setCell {B : Nat} {w : World} {u : Value} {xs : List Nat} (h : OF B w u xs) {a : Addr} (ha : a.block < B) (v : Value) : OF B (w.setCell a v) u xs := by
  refine h.kept (row := some a.block) ⟨rfl, rfl, rfl, by simp, fun k _ hk => Below.heap_setCell _ _ _ _ (fun e => hk (by rw [e]))⟩ ?_
  cases hu : u.ownBlock with
  | none => exact .inl rfl
  | some k =>
    refine .inr fun e => ?_
    have := (h.block k hu).1
    simp at e
    omega
theorem OF.alloc {B : Nat} {w : World} {u : Value} {xs : List Nat} (h : OF B w u xs) (o : Obj) : OF B (w.alloc o) u xs := h.later ((Below.refl _ _).alloc (Nat.le_refl _) o)
theorem OF.drewN {B : Nat} {w : World} {u : Value} {xs : List Nat} (h : OF B w u xs) (n : Nat) : OF B (w.drewN n) u xs := h.later (below_drewN (Below.refl _ _) n)
theorem OF.shape {B : Nat} {w : World} {u : Value} {xs : List Nat} (h : OF B w u xs) : ∃ q c, u = .slice q xs.length c := by
  rcases h.view with ⟨rfl, rfl⟩ | ⟨g, c, rfl, _⟩
  · exact ⟨none, 0, rfl⟩
  · exact ⟨_, c, rfl⟩
theorem OF.fs {B : Nat} {w : World} {u : Value} {xs : List Nat} (h : OF B w u xs) : FS w u xs := by
  rcases h.view with ⟨rfl, rfl⟩ | ⟨g, c, rfl, _, _, h1, h2, h3⟩
  · exact ⟨none, 0, rfl, by omega, by simp, fun i hi => by simp at hi⟩
  · exact ⟨_, c, rfl, by simpa [maxLen] using h2, h1, fun i hi => ⟨g, 0, rfl, by rw [Nat.zero_add]; exact (h3 i hi).1⟩⟩
theorem FS.kept {w w' : World} {v : Value} {xs : List Nat} {row : Option Nat} (h : FS w v xs) (hg : w.grownBy w' row) (hne : v.ownBlock = none ∨ v.ownBlock ≠ row) : FS w' v xs := by
  obtain ⟨p, c, rfl, h1, h2, h3⟩ := h
  refine ⟨p, c, rfl, h1, h2, fun i hi => ?_⟩
  obtain ⟨b, o, rfl, hc⟩ := h3 i hi
  refine ⟨b, o, rfl, hg.cell hc ?_⟩
  rcases hne with hne | hne
  · cases hne
  · exact hne
/-- In a plan: a call that hands back an own slice, somewhere in its value. -/
def Clm.own (mk : Value → Value) (B : Nat) (xs : List Nat) : Clm := ⟨1, fun _ v => ∃ q c, v = mk (.slice q xs.length c), fun _ v w => ∀ u, v = mk u → OF B w u xs, fun _ => ⟨_, none, 0, rfl⟩,
  fun _ v w w' h hb u e => (h u e).later hb, fun h => nomatch h⟩
theorem wpC_callO {P : Program} {ops : Array Oper} {Q : Exit → Act → World → Prop} {W : World} {l : List Oper} {cs : List Clm} {i : Nat} {ks : List (Nat × (World → Prop))} {a : Act} {o : Oper}
    (mk : Value → Value) (xs : List Nat) (hw : Region.wanted o (yielded ops a.tmps) = true) {f : FuncId} {args : Array Value} (h1 : ∀ w, (execOp a.eval o).run P w = .ok (.enter f args) w)
    (hc : ∀ w, Below W.heap.size W w → depK o ks w → Calls P f args w (fun e w' => ∃ u, e = .returned (mk u) ∧ Below w.heap.size w w' ∧ OF w.heap.size w' u xs)) (hmk : ∀ u u', mk u = mk u' → u = u')
    (h : ∀ q c, wpC P ops Q W l cs (i + 1) ((i, fun w => ∀ u, mk (.slice q xs.length c) = mk u → OF W.heap.size w u xs) :: ks) (a.put o.dst (mk (.slice q xs.length c)))) : wpC P ops Q W (o :: l) (Clm.own mk W.heap.size xs :: cs) i ks a := by
  refine wpC_call (Clm.own mk W.heap.size xs) rfl hw h1 (fun w hb hk => (hc w hb hk).mono ?_) ?_
  · rintro e w' ⟨u, rfl, hbl, hO⟩
    obtain ⟨q, c, rfl⟩ := hO.shape
    exact ⟨_, rfl, hbl, ⟨q, c, rfl⟩, fun u' e => by rw [← hmk _ _ e]; exact hO.base hb.size⟩
  · rintro v ⟨q, c, rfl⟩; exact h q c
end Go.Proofs.Ytjeeflldbhajiaa
set_option linter.unusedSimpArgs false
set_option linter.unusedVariables false
set_option linter.unusedSectionVars false
namespace Go.Proofs.Ytjeeflldbhajiaa
open Go Go.RowKit
theorem wp_named {P : Program} {c : Code} {Q : Exit → Act → World → Prop} {a : Act} {w : World} (h : ∀ W, W = w → c.wp P Q a W) : c.wp P Q a w := h _ rfl
/-- The walk stands still here. -/
def Stop (p : Prop) : Prop := p
theorem stop_here {p : Prop} (h : Stop p) : p := h
theorem OF.nil0 (B : Nat) (w : World) : OF B w (.slice .none 0 0) [] := World.ownsRow_nil _ _ _ _
theorem OF.empty {B n : Nat} (w : World) (t : TypeId) (hn : n = w.heap.size) (hB : B ≤ w.heap.size) (ht : t = 22) : OF B (w.alloc (.cells #[] t)) (.slice (some ⟨n, 0, .none⟩) 0 0) [] := by
  subst ht
  subst hn
  exact World.ownsRow_lit w #[] 0 hB (by simp) (by simp)
theorem wpList_app {B : Nat} {xs : List Nat} {v : Value} {b r : Nat} {w : World} {ops : Array Oper} {rest : List Oper} {o : Oper} {a : Act} {Q : Exit → Act → World → Prop} (hg : o.guard = .none) {s x : Operand}
    (ho : o.op = .call { callee := .builtin .append, args := #[s, x], argTypes := #[25, 25] }) (hs : a.eval s = v) (hx : a.eval x = .slice (some ⟨b, 0, .none⟩) 1 1) (hO : OF B w v xs) (hc : w.cell? ⟨b, 0, .none⟩ = some (.float .f32 r)) (hn : xs.length < 1048576) (hB : B ≤ w.heap.size)
    (h : ∀ q c w', OF B w' (.slice q (xs.length + 1) c) (xs ++ [r]) → Below B w w' → wpList Try.prog ops Q rest (a.put o.dst (.slice q (xs.length + 1) c)) w') : wpList Try.prog ops Q (o :: rest) a w := by
  obtain ⟨i0, hi, hz0, hz1, hz2⟩ := info_parts Try.infoF32
  refine wpList_append_own w hg s x 25 ho B 22 i0 (.float .f32 0) 1 4 Try.underlying25 hi hz0 hz1 hz2 rfl (by decide) v xs.length (xs.map (Value.float .f32)) hs hO ⟨b, 0, .none⟩ 1 1 [.float .f32 r] hx rfl ?_ ?_ (by unfold maxLen; omega) (by omega) hB ?_
  · intro j u hj
    match j, hj with
    | 0, hj => simp at hj; subst hj; simpa [Addr.add] using hc
    | j + 1, hj => simp at hj
  · intro u hu; simp at hu; subst hu; rfl
  · intro v' w' hown hgrow _
    have hO' : OF B w' v' (xs ++ [r]) := by
      unfold OF
      simpa using hown
    obtain ⟨q, c, rfl⟩ := hO'.shape
    simp only [List.length_append, List.length_cons, List.length_nil, Nat.zero_add] at hO' ⊢
    exact h q c w' hO' ((Below.refl _ _).grown hgrow hB fun k hk => (OF.block hO k hk).1)
/-- A slice of numbers (of these classes) that the call has made, and a bool. -/
def BC (w : World) (L : List Nat) (b : Bool) (e : Ending) (w' : World) : Prop := ∃ u ys, e = .returned (.tuple #[u, .bool b]) ∧ Below w.heap.size w w' ∧ OF w.heap.size w' u ys ∧ ys.map (cn .f32) = L
theorem at_later {s : St} {w w' : World} {b o B : Nat} (h : s.at w b o) (hb : Below B w w') (hB : b < B) : s.at w' b o := by
  obtain ⟨h0, h1, h2, h3, h4, h5⟩ := h
  exact ⟨(hb.cell hB).trans h0, (hb.cell hB).trans h1, (hb.cell hB).trans h2, (hb.cell hB).trans h3, (hb.cell hB).trans h4, (hb.cell hB).trans h5⟩
end Go.Proofs.Ytjeeflldbhajiaa
set_option linter.unusedSimpArgs false
set_option linter.unusedVariables false
set_option linter.unusedSectionVars false
namespace Go.Proofs.Ytjeeflldbhajiaa
open Go Go.RowKit
theorem OF.sep {B B' : Nat} {w w' : World} {v u : Value} {xs ys : List Nat} (h1 : OF B w v xs) (h2 : OF B' w' u ys) (h : w.heap.size ≤ B') : v.ownBlock = none ∨ v.ownBlock ≠ u.ownBlock := by
  cases hv : v.ownBlock with
  | none => exact .inl rfl
  | some k =>
    refine .inr fun e => ?_
    have a := (h1.block k hv).2
    have b := (h2.block k e.symm).1
    omega
theorem OF.sep' {B B' : Nat} {w w' : World} {v u : Value} {xs ys : List Nat} (h1 : OF B w v xs) (h2 : OF B' w' u ys) (h : w'.heap.size ≤ B) : v.ownBlock = none ∨ v.ownBlock ≠ u.ownBlock := by
  cases hv : v.ownBlock with
  | none => exact .inl rfl
  | some k =>
    refine .inr fun e => ?_
    have a := (h1.block k hv).1
    have b := (h2.block k e.symm).2
    omega
theorem FS.alloc {w : World} {v : Value} {xs : List Nat} (h : FS w v xs) (o : Obj) : FS (w.alloc o) v xs := h.later ((Below.refl _ _).alloc (Nat.le_refl _) o)
theorem FS.drewN {w : World} {v : Value} {xs : List Nat} (h : FS w v xs) (n : Nat) : FS (w.drewN n) v xs := h
end Go.Proofs.Ytjeeflldbhajiaa
set_option linter.unusedSimpArgs false
set_option linter.unusedVariables false
set_option linter.unusedSectionVars false
namespace Go.Proofs.Ytjeeflldbhajiaa
open Go Go.RowKit
/-- Only blocks from B on and ahead of S have turned; none is new. -/
structure Turn (B S : Nat) (w w' : World) : Prop where
  os : w'.os = w.os
  tape : w'.tape = w.tape
  output : w'.output = w.output
  size : w.heap.size ≤ w'.heap.size
  block : ∀ k, k < w.heap.size → k < B ∨ S ≤ k → w'.heap[k]? = w.heap[k]?
theorem Turn.refl (B S : Nat) (w : World) : Turn B S w w := ⟨rfl, rfl, rfl, Nat.le_refl _, fun _ _ _ => rfl⟩
theorem Turn.trans {B S : Nat} {a b c : World} (h : Turn B S a b) (h' : Turn B S b c) : Turn B S a c :=
  ⟨h'.os.trans h.os, h'.tape.trans h.tape, h'.output.trans h.output, Nat.le_trans h.size h'.size, fun k hk hr => (h'.block k (Nat.lt_of_lt_of_le hk h.size) hr).trans (h.block k hk hr)⟩
theorem Turn.draws {B S : Nat} {a b : World} (h : Turn B S a b) (n : Nat) : Turn B S a (b.drewN n) := ⟨h.os, h.tape, h.output, h.size, h.block⟩
theorem Turn.of {B S : Nat} {w w' : World} {u : Value} (hg : w.grownBy w' u.ownBlock) (h : ∀ k, u.ownBlock = some k → B ≤ k ∧ k < S) : Turn B S w w' :=
  ⟨hg.os, hg.tape, hg.output, hg.size, fun k hk hr => hg.block k hk fun e => by have := h k e.symm; omega⟩
theorem Turn.below {B S : Nat} {a b : World} (h : Below a.heap.size a b) : Turn B S a b := ⟨h.os, h.tape, h.output, h.size, fun k hk _ => h.block k hk⟩
theorem Turn.alloc {B S : Nat} {a b : World} (h : Turn B S a b) (o : Obj) : Turn B S a (b.alloc o) := h.trans (Turn.below ((Below.refl _ _).alloc (Nat.le_refl _) o))
theorem turn_track {B S : Nat} {w w' : World} (hg : Turn B S w w') : ∀ {L : List Nat}, Trk w L → (∀ b ∈ L, b < B ∨ S ≤ b) → Trk w' L ∧ SameOn w w' L
  | [], _, _ => ⟨Trk.nil _, trivial⟩
  | b :: L, h, hL => by
    have h0 : b < w.heap.size := h b (by simp)
    have h1 := hg.size
    obtain ⟨i1, i2⟩ := turn_track hg (L := L) (fun c hc => h c (by simp [hc])) (fun c hc => hL c (by simp [hc]))
    have hb := hL b (by simp)
    exact ⟨i1.more (by omega), ⟨⟨by omega, by omega, by omega, fun k => by omega, fun k => by omega⟩, fun o => World.cell?_of_block (hg.block b h0 hb), fun o => World.frozen?_of_block (hg.block b h0 hb)⟩, i2⟩
theorem turn_below {n B S : Nat} {w w' : World} (hg : Turn B S w w') (hn : n ≤ B) (hw : n ≤ w.heap.size) : Below n w w' :=
  ⟨hg.os, hg.tape, hg.output, hg.size, fun k hk => hg.block k (by omega) (.inl (by omega))⟩
/-- A row of the call's own, of n cells of a type, in a block from B on and ahead of S. -/
def RX (t : TypeId) (B S : Nat) (w : World) (u : Value) (n : Nat) (vs : List Value) : Prop := w.ownsRow B t 1 u n vs ∧ ∀ k, u.ownBlock = some k → k < S
section
variable {t : TypeId} {B S : Nat} {w w' : World} {u : Value} {n : Nat} {vs : List Value}
theorem RX.of (h : w.ownsRow B t 1 u n vs) : RX t B w.heap.size w u n vs := ⟨h, fun k hk => (World.ownsRow.lt h k hk).2⟩
theorem RX.lt (h : RX t B S w u n vs) : ∀ k, u.ownBlock = some k → B ≤ k ∧ k < S := fun k hk => ⟨(World.ownsRow.lt h.1 k hk).1, h.2 k hk⟩
theorem RX.kept {row : Option Nat} (h : RX t B S w u n vs) (hg : w.grownBy w' row) (hne : u.ownBlock = none ∨ u.ownBlock ≠ row) : RX t B S w' u n vs := ⟨World.ownsRow.kept h.1 hg hne, h.2⟩
theorem RX.later (h : RX t B S w u n vs) (hb : Below w.heap.size w w') : RX t B S w' u n vs := by
  cases hu : u.ownBlock with
  | none => exact h.kept (below_grown hb none) (.inl hu)
  | some k => exact h.kept (below_grown hb none) (.inr (by rw [hu]; simp))
theorem RX.alloc (h : RX t B S w u n vs) (o : Obj) : RX t B S (w.alloc o) u n vs := h.later ((Below.refl _ _).alloc (Nat.le_refl _) o)
theorem RX.drewN (h : RX t B S w u n vs) (m : Nat) : RX t B S (w.drewN m) u n vs := h.later (below_drewN (Below.refl _ _) m)
theorem RX.turn {B' S' : Nat} (h : RX t B S w u n vs) (hg : Turn B' S' w w') (hd : S ≤ B' ∨ S' ≤ B) : RX t B S w' u n vs := by
  refine ⟨?_, h.2⟩
  obtain ⟨h1, h2⟩ := h
  refine ⟨h1.1, ?_⟩
  rcases h1.2 with h3 | ⟨g, c, cur, e, hb, hg', r⟩
  · exact .inl h3
  · have hgS := h2 g (by rw [e]; rfl)
    have hgw : g < w.heap.size := (Array.getElem?_eq_some_iff.1 hg').1
    exact .inr ⟨g, c, cur, e, hb, (hg.block g hgw (by omega)).trans hg', r⟩
theorem RX.setCell (h : RX t B S w u n vs) {a : Addr} (ha : a.block < B ∨ S ≤ a.block) (v : Value) : RX t B S (w.setCell a v) u n vs := by
  refine h.kept (row := some a.block) ⟨rfl, rfl, rfl, by simp, fun k _ hk => Below.heap_setCell _ _ _ _ (fun e => hk (by rw [e]))⟩ ?_
  cases hu : u.ownBlock with
  | none => exact .inl rfl
  | some k =>
    refine .inr fun e => ?_
    have := h.lt k hu
    simp at e
    omega
end
def FX (B S : Nat) (w : World) (u : Value) (xs : List Nat) : Prop := RX 22 B S w u xs.length (xs.map (Value.float .f32))
section
variable {B S B' S' : Nat} {w w' : World} {u : Value} {xs : List Nat}
theorem FX.of (h : OF B w u xs) : FX B w.heap.size w u xs := RX.of h
theorem FX.own (h : FX B S w u xs) : OF B w u xs := h.1
theorem FX.later (h : FX B S w u xs) (hb : Below w.heap.size w w') : FX B S w' u xs := RX.later h hb
theorem FX.alloc (h : FX B S w u xs) (o : Obj) : FX B S (w.alloc o) u xs := RX.alloc h o
theorem FX.drewN (h : FX B S w u xs) (m : Nat) : FX B S (w.drewN m) u xs := RX.drewN h m
theorem FX.turn (h : FX B S w u xs) (hg : Turn B' S' w w') (hd : S ≤ B' ∨ S' ≤ B) : FX B S w' u xs := RX.turn h hg hd
theorem FX.setCell (h : FX B S w u xs) {a : Addr} (ha : a.block < B ∨ S ≤ a.block) (v : Value) : FX B S (w.setCell a v) u xs := RX.setCell h ha v
end
end Go.Proofs.Ytjeeflldbhajiaa
set_option linter.unusedSimpArgs false
set_option linter.unusedVariables false
set_option linter.unusedSectionVars false
namespace Go.Proofs.Ytjeeflldbhajiaa
open Go Go.RowKit
/-- A slice of bytes, in blocks ahead of B. -/
def BY (B : Nat) (w : World) (p : Option Addr) (n c : Nat) : Prop := (n ≤ c ∧ c ≤ 9223372036854775807) ∧ ∀ i, i < n → ∃ b o x, p = some ⟨b, o, none⟩ ∧ b < B ∧ w.cell? ⟨b, o + i, none⟩ = some (.int .u8 x) ∧ 0 ≤ x ∧ x ≤ 255
theorem BY.later {B C : Nat} {w w' : World} {p : Option Addr} {n c : Nat} (h : BY B w p n c) (hb : Below C w w') (hB : B ≤ C) : BY B w' p n c :=
  ⟨h.1, fun i hi => by
    obtain ⟨b, o, x, e, h1, h2, h3⟩ := h.2 i hi
    exact ⟨b, o, x, e, h1, (hb.cell (p := ⟨b, o + i, none⟩) (show b < C by omega)).trans h2, h3⟩⟩
theorem BY.mono {B C : Nat} {w : World} {p : Option Addr} {n c : Nat} (h : BY B w p n c) (hB : B ≤ C) : BY C w p n c :=
  ⟨h.1, fun i hi => by
    obtain ⟨b, o, x, e, h1, h2⟩ := h.2 i hi
    exact ⟨b, o, x, e, by omega, h2⟩⟩
/-- A source of draws in block b, after at most K draws. -/
def SrcAt (w : World) (b K : Nat) : Prop := ∃ (p : Option Addr) (n c : Nat) (k s : Int), (w.cell? ⟨b, 0, none⟩ = some (.slice p n c) ∧ w.cell? ⟨b, 1, none⟩ = some (.int .i64 k) ∧ w.cell? ⟨b, 2, none⟩ = some (.int .u64 s)) ∧ (w.frozen? ⟨b, 1, none⟩ = false ∧ w.frozen? ⟨b, 2, none⟩ = false) ∧ BY b w p n c ∧ n ≤ 1048576 ∧ (0 ≤ k ∧ k ≤ K) ∧ 0 ≤ s ∧ s < 18446744073709551616
theorem SrcAt.later {w w' : World} {b K B : Nat} (h : SrcAt w b K) (hb : Below B w w') (hB : b < B) : SrcAt w' b K := by
  obtain ⟨p, n, c, k, s, ⟨h1, h2, h3⟩, ⟨h4, h5⟩, h6, h7⟩ := h
  exact ⟨p, n, c, k, s, ⟨(hb.cell hB).trans h1, (hb.cell hB).trans h2, (hb.cell hB).trans h3⟩, ⟨(hb.frozen hB).trans h4, (hb.frozen hB).trans h5⟩, h6.later hb (by omega), h7⟩
theorem SrcAt.mono {w : World} {b K L : Nat} (h : SrcAt w b K) (hL : K ≤ L) : SrcAt w b L := by
  obtain ⟨p, n, c, k, s, h1, h2, h3, h4, ⟨h5, h6⟩, h7⟩ := h
  exact ⟨p, n, c, k, s, h1, h2, h3, h4, ⟨h5, by omega⟩, h7⟩
/-- What a draw leaves. -/
def SP (w : World) (b K : Nat) (lo hi : Int) (e : Ending) (w' : World) : Prop := ∃ r, e = .returned (.int .i64 r) ∧ (lo ≤ r ∧ r ≤ hi) ∧ Turn b (b + 1) w w' ∧ w'.heap.size = w.heap.size ∧ SrcAt w' b K
theorem src_next {w : World} {b K n c : Nat} {p : Option Addr} {k s : Int} (c0 : w.cell? ⟨b, 0, none⟩ = some (.slice p n c)) (c1 : w.cell? ⟨b, 1, none⟩ = some (.int .i64 k)) (c2 : w.cell? ⟨b, 2, none⟩ = some (.int .u64 s)) (f1 : w.frozen? ⟨b, 1, none⟩ = false) (f2 : w.frozen? ⟨b, 2, none⟩ = false) (hb : BY b w p n c) (hn : n ≤ 1048576) (hk : 0 ≤ k ∧ k ≤ K) (x : Int) (m : Nat) :
    Turn b (b + 1) w (((w.setCell ⟨b, 1, none⟩ (.int .i64 (k + 1))).setCell ⟨b, 2, none⟩ (.int .u64 (IntKind.u64.wrap x))).drewN m) ∧ (((w.setCell ⟨b, 1, none⟩ (.int .i64 (k + 1))).setCell ⟨b, 2, none⟩ (.int .u64 (IntKind.u64.wrap x))).drewN m).heap.size = w.heap.size ∧ SrcAt (((w.setCell ⟨b, 1, none⟩ (.int .i64 (k + 1))).setCell ⟨b, 2, none⟩ (.int .u64 (IntKind.u64.wrap x))).drewN m) b (K + 1) := by
  have hgt : ∀ (w' : World) (j : Nat) (v : Value), w'.grownBy (w'.setCell ⟨b, j, none⟩ v) (some b) := fun w' j v => ⟨rfl, rfl, rfl, by simp, fun i _ hi => Below.heap_setCell _ _ _ _ (fun e => hi (by rw [e]))⟩
  have h1 : Turn b (b + 1) w ((w.setCell ⟨b, 1, none⟩ (.int .i64 (k + 1))).setCell ⟨b, 2, none⟩ (.int .u64 (IntKind.u64.wrap x))) := by
    have a := hgt w 1 (.int .i64 (k + 1))
    have d := hgt (w.setCell ⟨b, 1, none⟩ (.int .i64 (k + 1))) 2 (.int .u64 (IntKind.u64.wrap x))
    exact ⟨rfl, rfl, rfl, by simp, fun i hi hr => (d.block i (by simpa using hi) (by simp; omega)).trans (a.block i hi (by simp; omega))⟩
  refine ⟨h1.draws m, by simp, p, n, c, k + 1, IntKind.u64.wrap x, ⟨by go_simp, ?_, ?_⟩, ⟨by simp; exact f1, by simp; exact f2⟩, ⟨hb.1, fun i hi => ?_⟩, hn, ⟨by omega, by omega⟩, ?_⟩
  · have := World.block_lt_of_cell? _ _ c1
    go_simp
  · go_simp
  · obtain ⟨bb, o, y, e, e1, e2, e3⟩ := hb.2 i hi
    refine ⟨bb, o, y, e, e1, ?_, e3⟩
    have hbl : Below bb.succ w (((w.setCell ⟨b, 1, none⟩ (.int .i64 (k + 1))).setCell ⟨b, 2, none⟩ (.int .u64 (IntKind.u64.wrap x))).drewN m) := by
      have h2 := h1.draws m
      exact ⟨h2.os, h2.tape, h2.output, h2.size, fun j hj => by
        by_cases hjw : j < w.heap.size
        · exact h2.block j hjw (.inl (by omega))
        · have := World.block_lt_of_cell? _ _ e2
          exact absurd (show j < w.heap.size by have : bb < w.heap.size := this; omega) hjw⟩
    exact (hbl.cell (p := ⟨bb, o + i, none⟩) (Nat.lt_succ_self bb)).trans e2
  · rw [IntKind.wrap_u64]
    omega
theorem and255 (x : Int) (h : 0 ≤ x) (h2 : x < 18446744073709551616) : 0 ≤ bits .and .u64 x 255 ∧ bits .and .u64 x 255 ≤ 255 := by
  obtain ⟨n, rfl⟩ := Int.eq_ofNat_of_zero_le h
  have e : bits .and .u64 (n : Int) 255 = ((n &&& 255 : Nat) : Int) := bits_and_u64_nat n 255 (by omega) (by omega)
  rw [e]
  have := Nat.and_le_right (n := n) (m := 255)
  omega
set_option maxHeartbeats 2000000 in
theorem next_any (b K : Nat) (w : World) (h : SrcAt w b K) (hK : K ≤ 1000000) : Calls Try.prog 123 #[.pointer (some ⟨b, 0, none⟩)] w (SP w b (K + 1) 0 255) := by
  obtain ⟨p, n, c, k, s, ⟨c0, c1, c2⟩, ⟨f1, f2⟩, hby, hn, ⟨hk0, hk1⟩, hs0, hs1⟩ := h
  obtain ⟨⟨hc1, hc2⟩, hv⟩ := hby
  have HV := Lib.hid hv
  clear hv
  by_cases hlt : k < n
  · obtain ⟨km, rfl⟩ := Int.eq_ofNat_of_zero_le hk0
    obtain ⟨bb, o, x, rfl, hbb, hx, hx0, hx1⟩ := HV.out km (by omega)
    go_enter Try.func123, Try.ntmps123
    go_wp2_with (first | (with_reducible refine at_list ?_; refine wpList_fop rfl rfl rfl rfl rfl ?_; intro r n hr0; have hr := hr0 _ _ (by first | with_reducible assumption | exact rfl) (by first | with_reducible assumption | exact rfl); clear hr0) | (with_reducible refine at_list ?_; refine wpList_neg rfl rfl rfl ?_; intro r hr0; have hr := hr0 _ (by first | with_reducible assumption | exact rfl); clear hr0) | (with_reducible refine at_list ?_; refine wpList_fop_g rfl rfl rfl rfl rfl ?_; intro r n hr0; have hr := hr0 _ _ (by first | with_reducible assumption | exact rfl) (by first | with_reducible assumption | exact rfl); clear hr0) | (with_reducible refine at_list ?_; refine wpList_wide_g rfl rfl Try.underlying22 Try.underlying40 rfl ?_; intro r n hr0; have hr := hr0 _ (by first | with_reducible assumption | exact rfl); clear hr0) | (with_reducible refine at_list ?_; refine wpList_wide rfl rfl rfl Try.underlying22 Try.underlying40 ?_; intro r n hr0; have hr := hr0 _ (by first | with_reducible assumption | exact rfl); clear hr0))
    all_goals (try ((first | (refine wp_some_lit (by kernel_rfl) (by kernel_rfl) ?_; (refine wpSome_one ?_; go_big_quiet_step (fail); refine wpQuiet_nil ?_); (refine wpSome_one ?_; go_big_quiet_step (fail); refine wpQuiet_nil ?_); (refine wpSome_one ?_; go_big_quiet_step (fail); refine wpQuiet_nil ?_); (refine wpSome_one ?_; go_big_quiet_step (fail); refine wpQuiet_nil ?_); (refine wpSome_one ?_; go_big_quiet_step (fail); refine wpQuiet_nil ?_); (refine wpSome_one ?_; go_big_quiet_step (fail); refine wpQuiet_nil ?_); (refine wpSome_one ?_; go_big_quiet_step (fail); refine wpQuiet_nil ?_); (refine wpSome_one ?_; go_big_quiet_step (fail); refine wpQuiet_nil ?_); (refine wpSome_one ?_; go_big_quiet_step (fail); refine wpQuiet_nil ?_); (refine wpSome_one ?_; go_big_quiet_step (fail); refine wpQuiet_nil ?_); refine wpSome_nil ?_; intro w' hw'; obtain ⟨nq, rfl⟩ := hw') | (refine wp_some_lit (by kernel_rfl) (by kernel_rfl) ?_; (refine wpSome_one ?_; go_big_quiet_step (fail); refine wpQuiet_nil ?_); (refine wpSome_one ?_; go_big_quiet_step (fail); refine wpQuiet_nil ?_); (refine wpSome_one ?_; go_big_quiet_step (fail); refine wpQuiet_nil ?_); (refine wpSome_one ?_; go_big_quiet_step (fail); refine wpQuiet_nil ?_); (refine wpSome_one ?_; go_big_quiet_step (fail); refine wpQuiet_nil ?_); (refine wpSome_one ?_; go_big_quiet_step (fail); refine wpQuiet_nil ?_); (refine wpSome_one ?_; go_big_quiet_step (fail); refine wpQuiet_nil ?_); (refine wpSome_one ?_; go_big_quiet_step (fail); refine wpQuiet_nil ?_); (refine wpSome_one ?_; go_big_quiet_step (fail); refine wpQuiet_nil ?_); (refine wpSome_one ?_; go_big_quiet_step (fail); refine wpQuiet_nil ?_); (refine wpSome_one ?_; go_big_quiet_step (fail); refine wpQuiet_nil ?_); (refine wpSome_one ?_; go_big_quiet_step (fail); refine wpQuiet_nil ?_); refine wpSome_nil ?_; intro w' hw'; obtain ⟨nq, rfl⟩ := hw') | (refine wp_some_lit (by kernel_rfl) (by kernel_rfl) ?_; (refine wpSome_one ?_; go_big_quiet_step (fail); refine wpQuiet_nil ?_); (refine wpSome_one ?_; go_big_quiet_step (fail); refine wpQuiet_nil ?_); (refine wpSome_one ?_; go_big_quiet_step (fail); refine wpQuiet_nil ?_); (refine wpSome_one ?_; go_big_quiet_step (fail); refine wpQuiet_nil ?_); (refine wpSome_one ?_; go_big_quiet_step (fail); refine wpQuiet_nil ?_); (refine wpSome_one ?_; go_big_quiet_step (fail); refine wpQuiet_nil ?_); (refine wpSome_one ?_; go_big_quiet_step (fail); refine wpQuiet_nil ?_); (refine wpSome_one ?_; go_big_quiet_step (fail); refine wpQuiet_nil ?_); (refine wpSome_one ?_; go_big_quiet_step (fail); refine wpQuiet_nil ?_); (refine wpSome_one ?_; go_big_quiet_step (fail); refine wpQuiet_nil ?_); refine wpSome_nil ?_; intro w' hw'; obtain ⟨nq, rfl⟩ := hw')); go_wp2_with (first | (with_reducible refine at_list ?_; refine wpList_fop rfl rfl rfl rfl rfl ?_; intro r n hr0; have hr := hr0 _ _ (by first | with_reducible assumption | exact rfl) (by first | with_reducible assumption | exact rfl); clear hr0) | (with_reducible refine at_list ?_; refine wpList_neg rfl rfl rfl ?_; intro r hr0; have hr := hr0 _ (by first | with_reducible assumption | exact rfl); clear hr0) | (with_reducible refine at_list ?_; refine wpList_fop_g rfl rfl rfl rfl rfl ?_; intro r n hr0; have hr := hr0 _ _ (by first | with_reducible assumption | exact rfl) (by first | with_reducible assumption | exact rfl); clear hr0) | (with_reducible refine at_list ?_; refine wpList_wide_g rfl rfl Try.underlying22 Try.underlying40 rfl ?_; intro r n hr0; have hr := hr0 _ (by first | with_reducible assumption | exact rfl); clear hr0) | (with_reducible refine at_list ?_; refine wpList_wide rfl rfl rfl Try.underlying22 Try.underlying40 ?_; intro r n hr0; have hr := hr0 _ (by first | with_reducible assumption | exact rfl); clear hr0))))
    all_goals (try ((first | (refine wp_some_lit (by kernel_rfl) (by kernel_rfl) ?_; (refine wpSome_one ?_; go_big_quiet_step (fail); refine wpQuiet_nil ?_); (refine wpSome_one ?_; go_big_quiet_step (fail); refine wpQuiet_nil ?_); (refine wpSome_one ?_; go_big_quiet_step (fail); refine wpQuiet_nil ?_); (refine wpSome_one ?_; go_big_quiet_step (fail); refine wpQuiet_nil ?_); (refine wpSome_one ?_; go_big_quiet_step (fail); refine wpQuiet_nil ?_); (refine wpSome_one ?_; go_big_quiet_step (fail); refine wpQuiet_nil ?_); (refine wpSome_one ?_; go_big_quiet_step (fail); refine wpQuiet_nil ?_); (refine wpSome_one ?_; go_big_quiet_step (fail); refine wpQuiet_nil ?_); (refine wpSome_one ?_; go_big_quiet_step (fail); refine wpQuiet_nil ?_); (refine wpSome_one ?_; go_big_quiet_step (fail); refine wpQuiet_nil ?_); refine wpSome_nil ?_; intro w' hw'; obtain ⟨nq, rfl⟩ := hw') | (refine wp_some_lit (by kernel_rfl) (by kernel_rfl) ?_; (refine wpSome_one ?_; go_big_quiet_step (fail); refine wpQuiet_nil ?_); (refine wpSome_one ?_; go_big_quiet_step (fail); refine wpQuiet_nil ?_); (refine wpSome_one ?_; go_big_quiet_step (fail); refine wpQuiet_nil ?_); (refine wpSome_one ?_; go_big_quiet_step (fail); refine wpQuiet_nil ?_); (refine wpSome_one ?_; go_big_quiet_step (fail); refine wpQuiet_nil ?_); (refine wpSome_one ?_; go_big_quiet_step (fail); refine wpQuiet_nil ?_); (refine wpSome_one ?_; go_big_quiet_step (fail); refine wpQuiet_nil ?_); (refine wpSome_one ?_; go_big_quiet_step (fail); refine wpQuiet_nil ?_); (refine wpSome_one ?_; go_big_quiet_step (fail); refine wpQuiet_nil ?_); (refine wpSome_one ?_; go_big_quiet_step (fail); refine wpQuiet_nil ?_); (refine wpSome_one ?_; go_big_quiet_step (fail); refine wpQuiet_nil ?_); (refine wpSome_one ?_; go_big_quiet_step (fail); refine wpQuiet_nil ?_); refine wpSome_nil ?_; intro w' hw'; obtain ⟨nq, rfl⟩ := hw') | (refine wp_some_lit (by kernel_rfl) (by kernel_rfl) ?_; (refine wpSome_one ?_; go_big_quiet_step (fail); refine wpQuiet_nil ?_); (refine wpSome_one ?_; go_big_quiet_step (fail); refine wpQuiet_nil ?_); (refine wpSome_one ?_; go_big_quiet_step (fail); refine wpQuiet_nil ?_); (refine wpSome_one ?_; go_big_quiet_step (fail); refine wpQuiet_nil ?_); (refine wpSome_one ?_; go_big_quiet_step (fail); refine wpQuiet_nil ?_); (refine wpSome_one ?_; go_big_quiet_step (fail); refine wpQuiet_nil ?_); (refine wpSome_one ?_; go_big_quiet_step (fail); refine wpQuiet_nil ?_); (refine wpSome_one ?_; go_big_quiet_step (fail); refine wpQuiet_nil ?_); (refine wpSome_one ?_; go_big_quiet_step (fail); refine wpQuiet_nil ?_); (refine wpSome_one ?_; go_big_quiet_step (fail); refine wpQuiet_nil ?_); refine wpSome_nil ?_; intro w' hw'; obtain ⟨nq, rfl⟩ := hw')); go_wp2_with (first | (with_reducible refine at_list ?_; refine wpList_fop rfl rfl rfl rfl rfl ?_; intro r n hr0; have hr := hr0 _ _ (by first | with_reducible assumption | exact rfl) (by first | with_reducible assumption | exact rfl); clear hr0) | (with_reducible refine at_list ?_; refine wpList_neg rfl rfl rfl ?_; intro r hr0; have hr := hr0 _ (by first | with_reducible assumption | exact rfl); clear hr0) | (with_reducible refine at_list ?_; refine wpList_fop_g rfl rfl rfl rfl rfl ?_; intro r n hr0; have hr := hr0 _ _ (by first | with_reducible assumption | exact rfl) (by first | with_reducible assumption | exact rfl); clear hr0) | (with_reducible refine at_list ?_; refine wpList_wide_g rfl rfl Try.underlying22 Try.underlying40 rfl ?_; intro r n hr0; have hr := hr0 _ (by first | with_reducible assumption | exact rfl); clear hr0) | (with_reducible refine at_list ?_; refine wpList_wide rfl rfl rfl Try.underlying22 Try.underlying40 ?_; intro r n hr0; have hr := hr0 _ (by first | with_reducible assumption | exact rfl); clear hr0))))
    all_goals (try ((first | (refine wp_some_lit (by kernel_rfl) (by kernel_rfl) ?_; (refine wpSome_one ?_; go_big_quiet_step (fail); refine wpQuiet_nil ?_); (refine wpSome_one ?_; go_big_quiet_step (fail); refine wpQuiet_nil ?_); (refine wpSome_one ?_; go_big_quiet_step (fail); refine wpQuiet_nil ?_); (refine wpSome_one ?_; go_big_quiet_step (fail); refine wpQuiet_nil ?_); (refine wpSome_one ?_; go_big_quiet_step (fail); refine wpQuiet_nil ?_); (refine wpSome_one ?_; go_big_quiet_step (fail); refine wpQuiet_nil ?_); (refine wpSome_one ?_; go_big_quiet_step (fail); refine wpQuiet_nil ?_); (refine wpSome_one ?_; go_big_quiet_step (fail); refine wpQuiet_nil ?_); (refine wpSome_one ?_; go_big_quiet_step (fail); refine wpQuiet_nil ?_); (refine wpSome_one ?_; go_big_quiet_step (fail); refine wpQuiet_nil ?_); refine wpSome_nil ?_; intro w' hw'; obtain ⟨nq, rfl⟩ := hw') | (refine wp_some_lit (by kernel_rfl) (by kernel_rfl) ?_; (refine wpSome_one ?_; go_big_quiet_step (fail); refine wpQuiet_nil ?_); (refine wpSome_one ?_; go_big_quiet_step (fail); refine wpQuiet_nil ?_); (refine wpSome_one ?_; go_big_quiet_step (fail); refine wpQuiet_nil ?_); (refine wpSome_one ?_; go_big_quiet_step (fail); refine wpQuiet_nil ?_); (refine wpSome_one ?_; go_big_quiet_step (fail); refine wpQuiet_nil ?_); (refine wpSome_one ?_; go_big_quiet_step (fail); refine wpQuiet_nil ?_); (refine wpSome_one ?_; go_big_quiet_step (fail); refine wpQuiet_nil ?_); (refine wpSome_one ?_; go_big_quiet_step (fail); refine wpQuiet_nil ?_); (refine wpSome_one ?_; go_big_quiet_step (fail); refine wpQuiet_nil ?_); (refine wpSome_one ?_; go_big_quiet_step (fail); refine wpQuiet_nil ?_); (refine wpSome_one ?_; go_big_quiet_step (fail); refine wpQuiet_nil ?_); (refine wpSome_one ?_; go_big_quiet_step (fail); refine wpQuiet_nil ?_); refine wpSome_nil ?_; intro w' hw'; obtain ⟨nq, rfl⟩ := hw') | (refine wp_some_lit (by kernel_rfl) (by kernel_rfl) ?_; (refine wpSome_one ?_; go_big_quiet_step (fail); refine wpQuiet_nil ?_); (refine wpSome_one ?_; go_big_quiet_step (fail); refine wpQuiet_nil ?_); (refine wpSome_one ?_; go_big_quiet_step (fail); refine wpQuiet_nil ?_); (refine wpSome_one ?_; go_big_quiet_step (fail); refine wpQuiet_nil ?_); (refine wpSome_one ?_; go_big_quiet_step (fail); refine wpQuiet_nil ?_); (refine wpSome_one ?_; go_big_quiet_step (fail); refine wpQuiet_nil ?_); (refine wpSome_one ?_; go_big_quiet_step (fail); refine wpQuiet_nil ?_); (refine wpSome_one ?_; go_big_quiet_step (fail); refine wpQuiet_nil ?_); (refine wpSome_one ?_; go_big_quiet_step (fail); refine wpQuiet_nil ?_); (refine wpSome_one ?_; go_big_quiet_step (fail); refine wpQuiet_nil ?_); refine wpSome_nil ?_; intro w' hw'; obtain ⟨nq, rfl⟩ := hw')); go_wp2_with (first | (with_reducible refine at_list ?_; refine wpList_fop rfl rfl rfl rfl rfl ?_; intro r n hr0; have hr := hr0 _ _ (by first | with_reducible assumption | exact rfl) (by first | with_reducible assumption | exact rfl); clear hr0) | (with_reducible refine at_list ?_; refine wpList_neg rfl rfl rfl ?_; intro r hr0; have hr := hr0 _ (by first | with_reducible assumption | exact rfl); clear hr0) | (with_reducible refine at_list ?_; refine wpList_fop_g rfl rfl rfl rfl rfl ?_; intro r n hr0; have hr := hr0 _ _ (by first | with_reducible assumption | exact rfl) (by first | with_reducible assumption | exact rfl); clear hr0) | (with_reducible refine at_list ?_; refine wpList_wide_g rfl rfl Try.underlying22 Try.underlying40 rfl ?_; intro r n hr0; have hr := hr0 _ (by first | with_reducible assumption | exact rfl); clear hr0) | (with_reducible refine at_list ?_; refine wpList_wide rfl rfl rfl Try.underlying22 Try.underlying40 ?_; intro r n hr0; have hr := hr0 _ (by first | with_reducible assumption | exact rfl); clear hr0))))
    all_goals (try (first | kernel_rfl | rfl))
    all_goals
      go_ret
      obtain ⟨e1, e2, e3⟩ := src_next c0 c1 c2 f1 f2 ⟨⟨hc1, hc2⟩, HV.out⟩ hn ⟨hk0, hk1⟩ (IntKind.u64.wrap (IntKind.u64.wrap (s * 6364136223846793005) + x) + 1442695040888963407) 0
      exact ⟨_, rfl, ⟨hx0, hx1⟩, ⟨e1.os, e1.tape, e1.output, e1.size, e1.block⟩, e2, e3⟩
  · go_enter Try.func123, Try.ntmps123
    go_wp2_with (first | (with_reducible refine at_list ?_; refine wpList_fop rfl rfl rfl rfl rfl ?_; intro r n hr0; have hr := hr0 _ _ (by first | with_reducible assumption | exact rfl) (by first | with_reducible assumption | exact rfl); clear hr0) | (with_reducible refine at_list ?_; refine wpList_neg rfl rfl rfl ?_; intro r hr0; have hr := hr0 _ (by first | with_reducible assumption | exact rfl); clear hr0) | (with_reducible refine at_list ?_; refine wpList_fop_g rfl rfl rfl rfl rfl ?_; intro r n hr0; have hr := hr0 _ _ (by first | with_reducible assumption | exact rfl) (by first | with_reducible assumption | exact rfl); clear hr0) | (with_reducible refine at_list ?_; refine wpList_wide_g rfl rfl Try.underlying22 Try.underlying40 rfl ?_; intro r n hr0; have hr := hr0 _ (by first | with_reducible assumption | exact rfl); clear hr0) | (with_reducible refine at_list ?_; refine wpList_wide rfl rfl rfl Try.underlying22 Try.underlying40 ?_; intro r n hr0; have hr := hr0 _ (by first | with_reducible assumption | exact rfl); clear hr0))
    all_goals (try ((first | (refine wp_some_lit (by kernel_rfl) (by kernel_rfl) ?_; (refine wpSome_one ?_; go_big_quiet_step (fail); refine wpQuiet_nil ?_); (refine wpSome_one ?_; go_big_quiet_step (fail); refine wpQuiet_nil ?_); (refine wpSome_one ?_; go_big_quiet_step (fail); refine wpQuiet_nil ?_); (refine wpSome_one ?_; go_big_quiet_step (fail); refine wpQuiet_nil ?_); (refine wpSome_one ?_; go_big_quiet_step (fail); refine wpQuiet_nil ?_); (refine wpSome_one ?_; go_big_quiet_step (fail); refine wpQuiet_nil ?_); (refine wpSome_one ?_; go_big_quiet_step (fail); refine wpQuiet_nil ?_); (refine wpSome_one ?_; go_big_quiet_step (fail); refine wpQuiet_nil ?_); (refine wpSome_one ?_; go_big_quiet_step (fail); refine wpQuiet_nil ?_); (refine wpSome_one ?_; go_big_quiet_step (fail); refine wpQuiet_nil ?_); refine wpSome_nil ?_; intro w' hw'; obtain ⟨nq, rfl⟩ := hw') | (refine wp_some_lit (by kernel_rfl) (by kernel_rfl) ?_; (refine wpSome_one ?_; go_big_quiet_step (fail); refine wpQuiet_nil ?_); (refine wpSome_one ?_; go_big_quiet_step (fail); refine wpQuiet_nil ?_); (refine wpSome_one ?_; go_big_quiet_step (fail); refine wpQuiet_nil ?_); (refine wpSome_one ?_; go_big_quiet_step (fail); refine wpQuiet_nil ?_); (refine wpSome_one ?_; go_big_quiet_step (fail); refine wpQuiet_nil ?_); (refine wpSome_one ?_; go_big_quiet_step (fail); refine wpQuiet_nil ?_); (refine wpSome_one ?_; go_big_quiet_step (fail); refine wpQuiet_nil ?_); (refine wpSome_one ?_; go_big_quiet_step (fail); refine wpQuiet_nil ?_); (refine wpSome_one ?_; go_big_quiet_step (fail); refine wpQuiet_nil ?_); (refine wpSome_one ?_; go_big_quiet_step (fail); refine wpQuiet_nil ?_); (refine wpSome_one ?_; go_big_quiet_step (fail); refine wpQuiet_nil ?_); (refine wpSome_one ?_; go_big_quiet_step (fail); refine wpQuiet_nil ?_); refine wpSome_nil ?_; intro w' hw'; obtain ⟨nq, rfl⟩ := hw') | (refine wp_some_lit (by kernel_rfl) (by kernel_rfl) ?_; (refine wpSome_one ?_; go_big_quiet_step (fail); refine wpQuiet_nil ?_); (refine wpSome_one ?_; go_big_quiet_step (fail); refine wpQuiet_nil ?_); (refine wpSome_one ?_; go_big_quiet_step (fail); refine wpQuiet_nil ?_); (refine wpSome_one ?_; go_big_quiet_step (fail); refine wpQuiet_nil ?_); (refine wpSome_one ?_; go_big_quiet_step (fail); refine wpQuiet_nil ?_); (refine wpSome_one ?_; go_big_quiet_step (fail); refine wpQuiet_nil ?_); (refine wpSome_one ?_; go_big_quiet_step (fail); refine wpQuiet_nil ?_); (refine wpSome_one ?_; go_big_quiet_step (fail); refine wpQuiet_nil ?_); (refine wpSome_one ?_; go_big_quiet_step (fail); refine wpQuiet_nil ?_); (refine wpSome_one ?_; go_big_quiet_step (fail); refine wpQuiet_nil ?_); refine wpSome_nil ?_; intro w' hw'; obtain ⟨nq, rfl⟩ := hw')); go_wp2_with (first | (with_reducible refine at_list ?_; refine wpList_fop rfl rfl rfl rfl rfl ?_; intro r n hr0; have hr := hr0 _ _ (by first | with_reducible assumption | exact rfl) (by first | with_reducible assumption | exact rfl); clear hr0) | (with_reducible refine at_list ?_; refine wpList_neg rfl rfl rfl ?_; intro r hr0; have hr := hr0 _ (by first | with_reducible assumption | exact rfl); clear hr0) | (with_reducible refine at_list ?_; refine wpList_fop_g rfl rfl rfl rfl rfl ?_; intro r n hr0; have hr := hr0 _ _ (by first | with_reducible assumption | exact rfl) (by first | with_reducible assumption | exact rfl); clear hr0) | (with_reducible refine at_list ?_; refine wpList_wide_g rfl rfl Try.underlying22 Try.underlying40 rfl ?_; intro r n hr0; have hr := hr0 _ (by first | with_reducible assumption | exact rfl); clear hr0) | (with_reducible refine at_list ?_; refine wpList_wide rfl rfl rfl Try.underlying22 Try.underlying40 ?_; intro r n hr0; have hr := hr0 _ (by first | with_reducible assumption | exact rfl); clear hr0))))
    all_goals (try ((first | (refine wp_some_lit (by kernel_rfl) (by kernel_rfl) ?_; (refine wpSome_one ?_; go_big_quiet_step (fail); refine wpQuiet_nil ?_); (refine wpSome_one ?_; go_big_quiet_step (fail); refine wpQuiet_nil ?_); (refine wpSome_one ?_; go_big_quiet_step (fail); refine wpQuiet_nil ?_); (refine wpSome_one ?_; go_big_quiet_step (fail); refine wpQuiet_nil ?_); (refine wpSome_one ?_; go_big_quiet_step (fail); refine wpQuiet_nil ?_); (refine wpSome_one ?_; go_big_quiet_step (fail); refine wpQuiet_nil ?_); (refine wpSome_one ?_; go_big_quiet_step (fail); refine wpQuiet_nil ?_); (refine wpSome_one ?_; go_big_quiet_step (fail); refine wpQuiet_nil ?_); (refine wpSome_one ?_; go_big_quiet_step (fail); refine wpQuiet_nil ?_); (refine wpSome_one ?_; go_big_quiet_step (fail); refine wpQuiet_nil ?_); refine wpSome_nil ?_; intro w' hw'; obtain ⟨nq, rfl⟩ := hw') | (refine wp_some_lit (by kernel_rfl) (by kernel_rfl) ?_; (refine wpSome_one ?_; go_big_quiet_step (fail); refine wpQuiet_nil ?_); (refine wpSome_one ?_; go_big_quiet_step (fail); refine wpQuiet_nil ?_); (refine wpSome_one ?_; go_big_quiet_step (fail); refine wpQuiet_nil ?_); (refine wpSome_one ?_; go_big_quiet_step (fail); refine wpQuiet_nil ?_); (refine wpSome_one ?_; go_big_quiet_step (fail); refine wpQuiet_nil ?_); (refine wpSome_one ?_; go_big_quiet_step (fail); refine wpQuiet_nil ?_); (refine wpSome_one ?_; go_big_quiet_step (fail); refine wpQuiet_nil ?_); (refine wpSome_one ?_; go_big_quiet_step (fail); refine wpQuiet_nil ?_); (refine wpSome_one ?_; go_big_quiet_step (fail); refine wpQuiet_nil ?_); (refine wpSome_one ?_; go_big_quiet_step (fail); refine wpQuiet_nil ?_); (refine wpSome_one ?_; go_big_quiet_step (fail); refine wpQuiet_nil ?_); (refine wpSome_one ?_; go_big_quiet_step (fail); refine wpQuiet_nil ?_); refine wpSome_nil ?_; intro w' hw'; obtain ⟨nq, rfl⟩ := hw') | (refine wp_some_lit (by kernel_rfl) (by kernel_rfl) ?_; (refine wpSome_one ?_; go_big_quiet_step (fail); refine wpQuiet_nil ?_); (refine wpSome_one ?_; go_big_quiet_step (fail); refine wpQuiet_nil ?_); (refine wpSome_one ?_; go_big_quiet_step (fail); refine wpQuiet_nil ?_); (refine wpSome_one ?_; go_big_quiet_step (fail); refine wpQuiet_nil ?_); (refine wpSome_one ?_; go_big_quiet_step (fail); refine wpQuiet_nil ?_); (refine wpSome_one ?_; go_big_quiet_step (fail); refine wpQuiet_nil ?_); (refine wpSome_one ?_; go_big_quiet_step (fail); refine wpQuiet_nil ?_); (refine wpSome_one ?_; go_big_quiet_step (fail); refine wpQuiet_nil ?_); (refine wpSome_one ?_; go_big_quiet_step (fail); refine wpQuiet_nil ?_); (refine wpSome_one ?_; go_big_quiet_step (fail); refine wpQuiet_nil ?_); refine wpSome_nil ?_; intro w' hw'; obtain ⟨nq, rfl⟩ := hw')); go_wp2_with (first | (with_reducible refine at_list ?_; refine wpList_fop rfl rfl rfl rfl rfl ?_; intro r n hr0; have hr := hr0 _ _ (by first | with_reducible assumption | exact rfl) (by first | with_reducible assumption | exact rfl); clear hr0) | (with_reducible refine at_list ?_; refine wpList_neg rfl rfl rfl ?_; intro r hr0; have hr := hr0 _ (by first | with_reducible assumption | exact rfl); clear hr0) | (with_reducible refine at_list ?_; refine wpList_fop_g rfl rfl rfl rfl rfl ?_; intro r n hr0; have hr := hr0 _ _ (by first | with_reducible assumption | exact rfl) (by first | with_reducible assumption | exact rfl); clear hr0) | (with_reducible refine at_list ?_; refine wpList_wide_g rfl rfl Try.underlying22 Try.underlying40 rfl ?_; intro r n hr0; have hr := hr0 _ (by first | with_reducible assumption | exact rfl); clear hr0) | (with_reducible refine at_list ?_; refine wpList_wide rfl rfl rfl Try.underlying22 Try.underlying40 ?_; intro r n hr0; have hr := hr0 _ (by first | with_reducible assumption | exact rfl); clear hr0))))
    all_goals (try ((first | (refine wp_some_lit (by kernel_rfl) (by kernel_rfl) ?_; (refine wpSome_one ?_; go_big_quiet_step (fail); refine wpQuiet_nil ?_); (refine wpSome_one ?_; go_big_quiet_step (fail); refine wpQuiet_nil ?_); (refine wpSome_one ?_; go_big_quiet_step (fail); refine wpQuiet_nil ?_); (refine wpSome_one ?_; go_big_quiet_step (fail); refine wpQuiet_nil ?_); (refine wpSome_one ?_; go_big_quiet_step (fail); refine wpQuiet_nil ?_); (refine wpSome_one ?_; go_big_quiet_step (fail); refine wpQuiet_nil ?_); (refine wpSome_one ?_; go_big_quiet_step (fail); refine wpQuiet_nil ?_); (refine wpSome_one ?_; go_big_quiet_step (fail); refine wpQuiet_nil ?_); (refine wpSome_one ?_; go_big_quiet_step (fail); refine wpQuiet_nil ?_); (refine wpSome_one ?_; go_big_quiet_step (fail); refine wpQuiet_nil ?_); refine wpSome_nil ?_; intro w' hw'; obtain ⟨nq, rfl⟩ := hw') | (refine wp_some_lit (by kernel_rfl) (by kernel_rfl) ?_; (refine wpSome_one ?_; go_big_quiet_step (fail); refine wpQuiet_nil ?_); (refine wpSome_one ?_; go_big_quiet_step (fail); refine wpQuiet_nil ?_); (refine wpSome_one ?_; go_big_quiet_step (fail); refine wpQuiet_nil ?_); (refine wpSome_one ?_; go_big_quiet_step (fail); refine wpQuiet_nil ?_); (refine wpSome_one ?_; go_big_quiet_step (fail); refine wpQuiet_nil ?_); (refine wpSome_one ?_; go_big_quiet_step (fail); refine wpQuiet_nil ?_); (refine wpSome_one ?_; go_big_quiet_step (fail); refine wpQuiet_nil ?_); (refine wpSome_one ?_; go_big_quiet_step (fail); refine wpQuiet_nil ?_); (refine wpSome_one ?_; go_big_quiet_step (fail); refine wpQuiet_nil ?_); (refine wpSome_one ?_; go_big_quiet_step (fail); refine wpQuiet_nil ?_); (refine wpSome_one ?_; go_big_quiet_step (fail); refine wpQuiet_nil ?_); (refine wpSome_one ?_; go_big_quiet_step (fail); refine wpQuiet_nil ?_); refine wpSome_nil ?_; intro w' hw'; obtain ⟨nq, rfl⟩ := hw') | (refine wp_some_lit (by kernel_rfl) (by kernel_rfl) ?_; (refine wpSome_one ?_; go_big_quiet_step (fail); refine wpQuiet_nil ?_); (refine wpSome_one ?_; go_big_quiet_step (fail); refine wpQuiet_nil ?_); (refine wpSome_one ?_; go_big_quiet_step (fail); refine wpQuiet_nil ?_); (refine wpSome_one ?_; go_big_quiet_step (fail); refine wpQuiet_nil ?_); (refine wpSome_one ?_; go_big_quiet_step (fail); refine wpQuiet_nil ?_); (refine wpSome_one ?_; go_big_quiet_step (fail); refine wpQuiet_nil ?_); (refine wpSome_one ?_; go_big_quiet_step (fail); refine wpQuiet_nil ?_); (refine wpSome_one ?_; go_big_quiet_step (fail); refine wpQuiet_nil ?_); (refine wpSome_one ?_; go_big_quiet_step (fail); refine wpQuiet_nil ?_); (refine wpSome_one ?_; go_big_quiet_step (fail); refine wpQuiet_nil ?_); refine wpSome_nil ?_; intro w' hw'; obtain ⟨nq, rfl⟩ := hw')); go_wp2_with (first | (with_reducible refine at_list ?_; refine wpList_fop rfl rfl rfl rfl rfl ?_; intro r n hr0; have hr := hr0 _ _ (by first | with_reducible assumption | exact rfl) (by first | with_reducible assumption | exact rfl); clear hr0) | (with_reducible refine at_list ?_; refine wpList_neg rfl rfl rfl ?_; intro r hr0; have hr := hr0 _ (by first | with_reducible assumption | exact rfl); clear hr0) | (with_reducible refine at_list ?_; refine wpList_fop_g rfl rfl rfl rfl rfl ?_; intro r n hr0; have hr := hr0 _ _ (by first | with_reducible assumption | exact rfl) (by first | with_reducible assumption | exact rfl); clear hr0) | (with_reducible refine at_list ?_; refine wpList_wide_g rfl rfl Try.underlying22 Try.underlying40 rfl ?_; intro r n hr0; have hr := hr0 _ (by first | with_reducible assumption | exact rfl); clear hr0) | (with_reducible refine at_list ?_; refine wpList_wide rfl rfl rfl Try.underlying22 Try.underlying40 ?_; intro r n hr0; have hr := hr0 _ (by first | with_reducible assumption | exact rfl); clear hr0))))
    all_goals (try (first | kernel_rfl | rfl))
    all_goals
      go_ret
      obtain ⟨e1, e2, e3⟩ := src_next c0 c1 c2 f1 f2 ⟨⟨hc1, hc2⟩, HV.out⟩ hn ⟨hk0, hk1⟩ (IntKind.u64.wrap (IntKind.u64.wrap (s * 6364136223846793005)) + 1442695040888963407) 0
      obtain ⟨g1, g2⟩ := and255 (IntKind.u64.wrap (IntKind.u64.wrap (IntKind.u64.wrap (s * 6364136223846793005)) + 1442695040888963407) / 1099511627776) (by rw [IntKind.wrap_u64]; omega) (by rw [IntKind.wrap_u64]; omega)
      refine ⟨_, rfl, ?_, ⟨e1.os, e1.tape, e1.output, e1.size, e1.block⟩, e2, e3⟩
      unfold wrap64
      omega
end Go.Proofs.Ytjeeflldbhajiaa
set_option linter.unusedSimpArgs false
set_option linter.unusedVariables false
set_option linter.unusedSectionVars false
namespace Go.Proofs.Ytjeeflldbhajiaa
open Go Go.RowKit
open Go.ChangeShapes Go.WideShapes Go.ChangeAt Go.RowKit Go.Joins
theorem spot_none {w : World} {a : Addr} {v : Value} (h : w.cell? a = some v) : a.spot = none := by
  unfold World.cell? at h
  split at h
  · split at h
    · cases h
    · rename_i hs; simpa using hs
  · cases h
section
variable {H : Type} {enc : TypeId × Value → H} {P : Program} {w : World} {base : Nat} {spare : Nat → Bool} {held : Bool}
end
section
variable {H : Type} {enc : TypeId × Value → H} {w : World} {base : Nat} {spare : Nat → Bool} {held : Bool}
end
section
variable {H : Type} {enc : TypeId × Value → H} {w : World} {base : Nat} {spare : Nat → Bool} {held : Bool}
end
end Go.Proofs.Ytjeeflldbhajiaa
set_option linter.unusedSimpArgs false
set_option linter.unusedVariables false
set_option linter.unusedSectionVars false
namespace Go.Proofs.Ytjeeflldbhajiaa
open Go Go.RowKit
open Go.ChangeShapes Go.WideShapes Go.ChangeAt Go.RowKit Go.Joins
theorem rem_bd {x n : Int} (hx : 0 ≤ x) (hn : 1 ≤ n) : 0 ≤ x % n ∧ x % n ≤ n - 1 := ⟨Int.emod_nonneg _ (by omega), by have := Int.emod_lt_of_pos x (show 0 < n by omega); omega⟩
theorem Turn.then {B S : Nat} {a b c : World} (h : Turn B S a b) (h' : Turn B S b c) : Turn B S a c := h.trans h'
set_option maxHeartbeats 2000000 in
theorem pick_any (b K : Nat) (n : Int) (w : World) (h : SrcAt w b K) (hK : K ≤ 900000) (hn : 1 ≤ n ∧ n ≤ 1000000000) : Calls Try.prog 114 #[.pointer (some ⟨b, 0, none⟩), .int .i64 n] w (SP w b (K + 2) 0 (n - 1)) := by
  have HN := Lib.hid (fun (K : Nat) w h (hK : K ≤ 1000000) => next_any b K w h hK)
  have HS := Lib.hid h
  clear h
  obtain ⟨hn1, hn2⟩ := hn
  by_cases h1 : n ≤ 1
  · have he : n = 1 := by omega
    subst he
    go_enter Try.func114, Try.ntmps114
    go_wp2_with (first | (with_reducible refine at_list ?_; refine wpList_fop rfl rfl rfl rfl rfl ?_; intro r n hr0; have hr := hr0 _ _ (by first | with_reducible assumption | exact rfl) (by first | with_reducible assumption | exact rfl); clear hr0) | (with_reducible refine at_list ?_; refine wpList_neg rfl rfl rfl ?_; intro r hr0; have hr := hr0 _ (by first | with_reducible assumption | exact rfl); clear hr0) | (with_reducible refine at_list ?_; refine wpList_fop_g rfl rfl rfl rfl rfl ?_; intro r n hr0; have hr := hr0 _ _ (by first | with_reducible assumption | exact rfl) (by first | with_reducible assumption | exact rfl); clear hr0) | (with_reducible refine at_list ?_; refine wpList_wide_g rfl rfl Try.underlying22 Try.underlying40 rfl ?_; intro r n hr0; have hr := hr0 _ (by first | with_reducible assumption | exact rfl); clear hr0) | (with_reducible refine at_list ?_; refine wpList_wide rfl rfl rfl Try.underlying22 Try.underlying40 ?_; intro r n hr0; have hr := hr0 _ (by first | with_reducible assumption | exact rfl); clear hr0))
    all_goals
      go_ret
      exact ⟨0, rfl, ⟨by omega, by omega⟩, Turn.refl _ _ _, rfl, HS.out.mono (by omega)⟩
  by_cases h2 : 200 < n
  · go_enter Try.func114, Try.ntmps114
    go_wp2_with (first | (with_reducible refine at_list ?_; refine wpList_fop rfl rfl rfl rfl rfl ?_; intro r n hr0; have hr := hr0 _ _ (by first | with_reducible assumption | exact rfl) (by first | with_reducible assumption | exact rfl); clear hr0) | (with_reducible refine at_list ?_; refine wpList_neg rfl rfl rfl ?_; intro r hr0; have hr := hr0 _ (by first | with_reducible assumption | exact rfl); clear hr0) | (with_reducible refine at_list ?_; refine wpList_fop_g rfl rfl rfl rfl rfl ?_; intro r n hr0; have hr := hr0 _ _ (by first | with_reducible assumption | exact rfl) (by first | with_reducible assumption | exact rfl); clear hr0) | (with_reducible refine at_list ?_; refine wpList_wide_g rfl rfl Try.underlying22 Try.underlying40 rfl ?_; intro r n hr0; have hr := hr0 _ (by first | with_reducible assumption | exact rfl); clear hr0) | (with_reducible refine at_list ?_; refine wpList_wide rfl rfl rfl Try.underlying22 Try.underlying40 ?_; intro r n hr0; have hr := hr0 _ (by first | with_reducible assumption | exact rfl); clear hr0) | (go_at_call 123; first | (refine (HN.out _ _ HSa.out (by omega)).mono ?_; rintro e w2 ⟨r2, rfl, hr2, hg2, hz2, hs2⟩; have HSb := Lib.hid hs2; have HGb := Lib.hid hg2; have HZb := Lib.hid hz2; clear hs2 hg2 hz2) | (refine (HN.out _ _ HS.out (by omega)).mono ?_; rintro e w' ⟨r, rfl, hr, hg, hz, hs⟩; have HSa := Lib.hid hs; have HGa := Lib.hid hg; have HZa := Lib.hid hz; clear hs hg hz)))
    go_ret
    obtain ⟨hb1, hb2⟩ := rem_bd (x := r * 256 + r2) (n := n) (by omega) hn1
    exact ⟨_, rfl, ⟨by go_num, by go_num⟩, HGa.out.then HGb.out, HZb.out.trans HZa.out, HSb.out⟩
  · go_enter Try.func114, Try.ntmps114
    go_wp2_with (first | (with_reducible refine at_list ?_; refine wpList_fop rfl rfl rfl rfl rfl ?_; intro r n hr0; have hr := hr0 _ _ (by first | with_reducible assumption | exact rfl) (by first | with_reducible assumption | exact rfl); clear hr0) | (with_reducible refine at_list ?_; refine wpList_neg rfl rfl rfl ?_; intro r hr0; have hr := hr0 _ (by first | with_reducible assumption | exact rfl); clear hr0) | (with_reducible refine at_list ?_; refine wpList_fop_g rfl rfl rfl rfl rfl ?_; intro r n hr0; have hr := hr0 _ _ (by first | with_reducible assumption | exact rfl) (by first | with_reducible assumption | exact rfl); clear hr0) | (with_reducible refine at_list ?_; refine wpList_wide_g rfl rfl Try.underlying22 Try.underlying40 rfl ?_; intro r n hr0; have hr := hr0 _ (by first | with_reducible assumption | exact rfl); clear hr0) | (with_reducible refine at_list ?_; refine wpList_wide rfl rfl rfl Try.underlying22 Try.underlying40 ?_; intro r n hr0; have hr := hr0 _ (by first | with_reducible assumption | exact rfl); clear hr0) | (go_at_call 123; first | (refine (HN.out _ _ HSa.out (by omega)).mono ?_; rintro e w2 ⟨r2, rfl, hr2, hg2, hz2, hs2⟩; have HSb := Lib.hid hs2; have HGb := Lib.hid hg2; have HZb := Lib.hid hz2; clear hs2 hg2 hz2) | (refine (HN.out _ _ HS.out (by omega)).mono ?_; rintro e w' ⟨r, rfl, hr, hg, hz, hs⟩; have HSa := Lib.hid hs; have HGa := Lib.hid hg; have HZa := Lib.hid hz; clear hs hg hz)))
    go_ret
    obtain ⟨hb1, hb2⟩ := rem_bd (x := r) (n := n) (by omega) hn1
    exact ⟨_, rfl, ⟨by go_num, by go_num⟩, HGa.out, HZa.out, HSa.out.mono (by omega)⟩
end Go.Proofs.Ytjeeflldbhajiaa
