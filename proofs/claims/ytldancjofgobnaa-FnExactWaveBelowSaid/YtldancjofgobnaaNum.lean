/-
  What the small functions over numbers return (the program's and the reference's), each proved once. No condition but what each contract says.
-/
import Derived.Test.YtldancjofgobnaaOpen
set_option linter.unusedSimpArgs false
set_option linter.unusedVariables false
set_option linter.unusedSectionVars false
namespace Go.Proofs.Ytldancjofgobnaa
open Go Go.RowKit

def RI (w : World) (n : Int) (e : Ending) (w' : World) : Prop := e = .returned (.int .i64 n) ∧ ∃ m, w' = w.drewN m

/-- A slice of 32-bit numbers with these words. -/
def FS (w : World) (v : Value) (xs : List Nat) : Prop :=
  ∃ p c, v = .slice p xs.length c ∧ c ≤ 9223372036854775807 ∧ xs.length ≤ c ∧ ∀ i, i < xs.length → ∃ b o, p = some ⟨b, o, none⟩ ∧ w.cell? ⟨b, o + i, none⟩ = some (.float .f32 (xs.getD i 0))
theorem FS_view {w : World} {v : Value} {xs : List Nat} (h : FS w v xs) : ∃ p c, v = .slice p xs.length c ∧ c ≤ 9223372036854775807 ∧ xs.length ≤ c ∧ ∀ i, i < xs.length → ∃ b o, p = some ⟨b, o, none⟩ ∧ w.cell? ⟨b, o + i, none⟩ = some (.float .f32 (xs.getD i 0)) := h

def findI (p : Nat → Bool) (xs : List Nat) : Int := match xs.findIdx? p with | some i => i | none => -1
theorem findI_at (p : Nat → Bool) (xs : List Nat) (k : Nat) (hk : k < xs.length) (h0 : ∀ j, j < k → p (xs.getD j 0) = false) (h1 : p (xs.getD k 0) = true) : findI p xs = k := by
  have : xs.findIdx? p = some k := by
    rw [List.findIdx?_eq_some_iff_getElem]
    refine ⟨hk, by simpa [hk] using h1, fun j hj => ?_⟩
    have := h0 j hj
    simpa [show j < xs.length by omega] using this
  simp [findI, this]
theorem findI_no (p : Nat → Bool) (xs : List Nat) (h0 : ∀ j, j < xs.length → p (xs.getD j 0) = false) : findI p xs = -1 := by
  have : xs.findIdx? p = none := by
    rw [List.findIdx?_eq_none_iff]
    intro x hx
    obtain ⟨j, hj, rfl⟩ := List.getElem_of_mem hx
    have := h0 j hj
    simpa [hj] using this
  simp [findI, this]


def inB (n lo hi : Int) : Bool := decide (lo ≤ n) && decide (n ≤ hi)
theorem inB_split (n lo hi : Int) : (lo ≤ n ∧ n ≤ hi) ∨ (lo ≤ n ∧ ¬ n ≤ hi) ∨ ¬ lo ≤ n := by omega



/-- Is a number finite; is it finite and greater than 0; at least 0; a number, if it is finite. -/
def fin (k : FloatKind) (c : Nat) : Bool := feq k (fop .sub k c c) (cn k 0)
def abv (c : Nat) : Bool := fin .f32 c && fgt .f32 c (cn .f32 0)
def lst (c : Nat) : Bool := fin .f32 c && fge .f32 c (cn .f32 0)
def chk (c : Nat) : Nat := if fin .f32 c then c else cn .f32 0
theorem chk_yes {c : Nat} (h : fin .f32 c = true) : chk c = c := by simp [chk, h]
theorem chk_no {c : Nat} (h : fin .f32 c = false) : chk c = cn .f32 0 := by simp [chk, h]

set_option maxHeartbeats 400000 in
theorem IsFinite_any (x : Nat) (w : World) : Calls Try.prog 14 #[.float .f32 x] w (RB w (fin .f32 (cn .f32 x))) := by
  go_enter Try.func14, Try.ntmps14
  go_wp2_with (first | (with_reducible refine at_list ?_; refine wpList_fop rfl rfl rfl rfl rfl ?_; intro r n hr0; have hr := hr0 _ _ (by first | with_reducible assumption | exact rfl) (by first | with_reducible assumption | exact rfl); clear hr0) | (with_reducible refine at_list ?_; refine wpList_neg rfl rfl rfl ?_; intro r hr0; have hr := hr0 _ (by first | with_reducible assumption | exact rfl); clear hr0) | (with_reducible refine at_list ?_; refine wpList_fop_g rfl rfl rfl rfl rfl ?_; intro r n hr0; have hr := hr0 _ _ (by first | with_reducible assumption | exact rfl) (by first | with_reducible assumption | exact rfl); clear hr0) | (with_reducible refine at_list ?_; refine wpList_wide_g rfl rfl Try.underlying22 Try.underlying32 rfl ?_; intro r n hr0; have hr := hr0 _ (by first | with_reducible assumption | exact rfl); clear hr0) | (with_reducible refine at_list ?_; refine wpList_wide rfl rfl rfl Try.underlying22 Try.underlying32 ?_; intro r n hr0; have hr := hr0 _ (by first | with_reducible assumption | exact rfl); clear hr0))
  go_ret
  exact ⟨by simp only [*]; rfl, _, rfl⟩
set_option maxHeartbeats 400000 in
theorem l01Finite_any (x : Nat) (w : World) : Calls Try.prog 12 #[.float .f32 x] w (RB w (fin .f32 (cn .f32 x))) := by
  go_enter Try.func12, Try.ntmps12
  go_wp2_with (first | (with_reducible refine at_list ?_; refine wpList_fop rfl rfl rfl rfl rfl ?_; intro r n hr0; have hr := hr0 _ _ (by first | with_reducible assumption | exact rfl) (by first | with_reducible assumption | exact rfl); clear hr0) | (with_reducible refine at_list ?_; refine wpList_neg rfl rfl rfl ?_; intro r hr0; have hr := hr0 _ (by first | with_reducible assumption | exact rfl); clear hr0) | (with_reducible refine at_list ?_; refine wpList_fop_g rfl rfl rfl rfl rfl ?_; intro r n hr0; have hr := hr0 _ _ (by first | with_reducible assumption | exact rfl) (by first | with_reducible assumption | exact rfl); clear hr0) | (with_reducible refine at_list ?_; refine wpList_wide_g rfl rfl Try.underlying22 Try.underlying32 rfl ?_; intro r n hr0; have hr := hr0 _ (by first | with_reducible assumption | exact rfl); clear hr0) | (with_reducible refine at_list ?_; refine wpList_wide rfl rfl rfl Try.underlying22 Try.underlying32 ?_; intro r n hr0; have hr := hr0 _ (by first | with_reducible assumption | exact rfl); clear hr0))
  go_ret
  exact ⟨by simp only [*]; rfl, _, rfl⟩
set_option maxHeartbeats 400000 in
theorem l02Above_any (x : Nat) (w : World) : Calls Try.prog 8 #[.float .f32 x] w (RB w (abv (cn .f32 x))) := by
  rcases h : fin .f32 (cn .f32 x) <;>
  · go_enter Try.func8, Try.ntmps8
    go_wp2_with (first | (with_reducible refine at_list ?_; refine wpList_fop rfl rfl rfl rfl rfl ?_; intro r n hr0; have hr := hr0 _ _ (by first | with_reducible assumption | exact rfl) (by first | with_reducible assumption | exact rfl); clear hr0) | (with_reducible refine at_list ?_; refine wpList_neg rfl rfl rfl ?_; intro r hr0; have hr := hr0 _ (by first | with_reducible assumption | exact rfl); clear hr0) | (with_reducible refine at_list ?_; refine wpList_fop_g rfl rfl rfl rfl rfl ?_; intro r n hr0; have hr := hr0 _ _ (by first | with_reducible assumption | exact rfl) (by first | with_reducible assumption | exact rfl); clear hr0) | (with_reducible refine at_list ?_; refine wpList_wide_g rfl rfl Try.underlying22 Try.underlying32 rfl ?_; intro r n hr0; have hr := hr0 _ (by first | with_reducible assumption | exact rfl); clear hr0) | (with_reducible refine at_list ?_; refine wpList_wide rfl rfl rfl Try.underlying22 Try.underlying32 ?_; intro r n hr0; have hr := hr0 _ (by first | with_reducible assumption | exact rfl); clear hr0) | (go_at_call 12; refine (l01Finite_any _ _).mono ?_; rintro e w' ⟨rfl, n, rfl⟩))
    go_ret
    exact ⟨by simp [abv, h], _, rfl⟩
set_option maxHeartbeats 400000 in
theorem l02Least_any (x : Nat) (w : World) : Calls Try.prog 7 #[.float .f32 x] w (RB w (lst (cn .f32 x))) := by
  rcases h : fin .f32 (cn .f32 x) <;>
  · go_enter Try.func7, Try.ntmps7
    go_wp2_with (first | (with_reducible refine at_list ?_; refine wpList_fop rfl rfl rfl rfl rfl ?_; intro r n hr0; have hr := hr0 _ _ (by first | with_reducible assumption | exact rfl) (by first | with_reducible assumption | exact rfl); clear hr0) | (with_reducible refine at_list ?_; refine wpList_neg rfl rfl rfl ?_; intro r hr0; have hr := hr0 _ (by first | with_reducible assumption | exact rfl); clear hr0) | (with_reducible refine at_list ?_; refine wpList_fop_g rfl rfl rfl rfl rfl ?_; intro r n hr0; have hr := hr0 _ _ (by first | with_reducible assumption | exact rfl) (by first | with_reducible assumption | exact rfl); clear hr0) | (with_reducible refine at_list ?_; refine wpList_wide_g rfl rfl Try.underlying22 Try.underlying32 rfl ?_; intro r n hr0; have hr := hr0 _ (by first | with_reducible assumption | exact rfl); clear hr0) | (with_reducible refine at_list ?_; refine wpList_wide rfl rfl rfl Try.underlying22 Try.underlying32 ?_; intro r n hr0; have hr := hr0 _ (by first | with_reducible assumption | exact rfl); clear hr0) | (go_at_call 12; refine (l01Finite_any _ _).mono ?_; rintro e w' ⟨rfl, n, rfl⟩))
    go_ret
    exact ⟨by simp [lst, h], _, rfl⟩
def shr (c : Nat) : Bool := fge .f32 c (cn .f32 0) && fle .f32 c (cn .f32 1065353216)
def slt (c : Nat) : Bool := fge .f32 c (cn .f32 0) && fle .f32 c (cn .f32 1133903872)
set_option maxHeartbeats 400000 in
theorem arePositive1_any (x : Nat) (w : World) : Calls Try.prog 26 #[.float .f32 x] w (RB w (!fin .f32 (cn .f32 x) || fle .f32 (cn .f32 x) (cn .f32 0))) := by
  rcases h : fin .f32 (cn .f32 x) <;>
  · go_enter Try.func26, Try.ntmps26
    go_wp2_with (first | (with_reducible refine at_list ?_; refine wpList_fop rfl rfl rfl rfl rfl ?_; intro r n hr0; have hr := hr0 _ _ (by first | with_reducible assumption | exact rfl) (by first | with_reducible assumption | exact rfl); clear hr0) | (with_reducible refine at_list ?_; refine wpList_neg rfl rfl rfl ?_; intro r hr0; have hr := hr0 _ (by first | with_reducible assumption | exact rfl); clear hr0) | (with_reducible refine at_list ?_; refine wpList_fop_g rfl rfl rfl rfl rfl ?_; intro r n hr0; have hr := hr0 _ _ (by first | with_reducible assumption | exact rfl) (by first | with_reducible assumption | exact rfl); clear hr0) | (with_reducible refine at_list ?_; refine wpList_wide_g rfl rfl Try.underlying22 Try.underlying32 rfl ?_; intro r n hr0; have hr := hr0 _ (by first | with_reducible assumption | exact rfl); clear hr0) | (with_reducible refine at_list ?_; refine wpList_wide rfl rfl rfl Try.underlying22 Try.underlying32 ?_; intro r n hr0; have hr := hr0 _ (by first | with_reducible assumption | exact rfl); clear hr0) | (go_at_call 14; refine (IsFinite_any _ _).mono ?_; rintro e w' ⟨rfl, n, rfl⟩))
    go_ret
    exact ⟨by simp, _, rfl⟩
set_option maxHeartbeats 400000 in
theorem areFinite1_any (x : Nat) (w : World) : Calls Try.prog 40 #[.float .f32 x] w (RB w (!fin .f32 (cn .f32 x))) := by
  go_enter Try.func40, Try.ntmps40
  go_wp2_with (first | (with_reducible refine at_list ?_; refine wpList_fop rfl rfl rfl rfl rfl ?_; intro r n hr0; have hr := hr0 _ _ (by first | with_reducible assumption | exact rfl) (by first | with_reducible assumption | exact rfl); clear hr0) | (with_reducible refine at_list ?_; refine wpList_neg rfl rfl rfl ?_; intro r hr0; have hr := hr0 _ (by first | with_reducible assumption | exact rfl); clear hr0) | (with_reducible refine at_list ?_; refine wpList_fop_g rfl rfl rfl rfl rfl ?_; intro r n hr0; have hr := hr0 _ _ (by first | with_reducible assumption | exact rfl) (by first | with_reducible assumption | exact rfl); clear hr0) | (with_reducible refine at_list ?_; refine wpList_wide_g rfl rfl Try.underlying22 Try.underlying32 rfl ?_; intro r n hr0; have hr := hr0 _ (by first | with_reducible assumption | exact rfl); clear hr0) | (with_reducible refine at_list ?_; refine wpList_wide rfl rfl rfl Try.underlying22 Try.underlying32 ?_; intro r n hr0; have hr := hr0 _ (by first | with_reducible assumption | exact rfl); clear hr0) | (go_at_call 14; refine (IsFinite_any _ _).mono ?_; rintro e w' ⟨rfl, n, rfl⟩))
  go_ret
  exact ⟨rfl, _, rfl⟩
set_option maxHeartbeats 1000000 in
theorem IndexFunc_any (g : Nat) (p : Nat → Bool) (xs : List Nat) (v : Value) (w : World) (hs : FS w v xs) (hcf : ∀ x w', (callFunc g #[.float .f32 x]).run Try.prog w' = .ok (.enter g #[.float .f32 x]) w')
    (hg : ∀ j, j < xs.length → ∀ m, Calls Try.prog g #[.float .f32 (xs.getD j 0)] (w.drewN m) (RB (w.drewN m) (p (xs.getD j 0)))) :
    Calls Try.prog 35 #[v, .func (.func g) #[] #[]] w (RI w (findI p xs)) := by
  have HG := Lib.hid hg; clear hg
  obtain ⟨q, c, rfl, hc1, hc0, HV⟩ := FS_view hs
  have HV := Lib.hid HV
  clear hs
  go_enter Try.func35, Try.ntmps35
  go_wp2
  go_loopw [8] (fun t wr => ∃ k m : Nat, k ≤ xs.length ∧ t = .int .i64 k ∧ wr = w.drewN m ∧ Hid (∀ j, j < k → p (xs.getD j 0) = false)) (fun t _ => xs.length - (intOf t).toNat)
  case atStart => exact ⟨0, 0, Nat.zero_le _, rfl, rfl, fun j hj => by omega⟩
  case round =>
    obtain ⟨k, m, hk, rfl, rfl, hp⟩ := hrel
    by_cases hlt : k < xs.length
    · obtain ⟨b, o, rfl, hcell⟩ := HV.out k hlt
      clear HV
      generalize hx : xs.getD k 0 = x at hcell
      have Hx := Lib.hid hx; clear hx
      rcases hb : p x
      · go_wp2_with fail
        refine (Hx.out ▸ HG.out k hlt m).mono ?_
        rintro e w' ⟨rfl, n, rfl⟩
        go_wp2_with fail
        go_roundw
        case rel => exact ⟨k + 1, m + n, by omega, by go_num, by simp, fun j hj => by rcases Nat.lt_succ_iff_lt_or_eq.1 hj with h | rfl; exact hp j h; rw [Hx.out]; exact hb⟩
        case measure => simp [intOf]; omega
      · go_wp2_with fail
        refine (Hx.out ▸ HG.out k hlt m).mono ?_
        rintro e w' ⟨rfl, n, rfl⟩
        go_wp2_with fail
        go_ret
        exact ⟨by rw [findI_at p xs k hlt hp (by rw [Hx.out]; exact hb)]; rfl, m + n, by simp⟩
    · go_wp2
      go_ret
      exact ⟨by rw [findI_no p xs (fun j hj => hp.out j (by omega))]; rfl, m, rfl⟩

theorem findI_ge (p : Nat → Bool) (xs : List Nat) : decide (0 ≤ findI p xs) = xs.any p := by
  unfold findI
  cases h : xs.findIdx? p with
  | none =>
    have := List.findIdx?_eq_none_iff.1 h
    simp only [show ¬ (0 : Int) ≤ -1 by omega, decide_false]
    symm
    rw [List.any_eq_false]
    intro x hx
    simpa using this x hx
  | some i =>
    rw [List.findIdx?_eq_some_iff_getElem] at h
    obtain ⟨hi, hp, _⟩ := h
    simp only [show (0 : Int) ≤ (i : Int) by omega, decide_true]
    symm
    rw [List.any_eq_true]
    exact ⟨_, List.getElem_mem hi, hp⟩
set_option maxHeartbeats 400000 in
theorem ContainsFunc_any (g : Nat) (p : Nat → Bool) (xs : List Nat) (v : Value) (w : World) (hs : FS w v xs) (hcf : ∀ x w', (callFunc g #[.float .f32 x]).run Try.prog w' = .ok (.enter g #[.float .f32 x]) w')
    (hg : ∀ x m, Calls Try.prog g #[.float .f32 x] (w.drewN m) (RB (w.drewN m) (p x))) :
    Calls Try.prog 25 #[v, .func (.func g) #[] #[]] w (RB w (xs.any p)) := by
  have HC := Lib.hid hcf; clear hcf
  have HG := Lib.hid hg; clear hg
  have hq := findI_ge p xs
  go_enter Try.func25, Try.ntmps25
  go_wp2_with fail
  refine (IndexFunc_any g p xs v _ hs HC.out (fun j _ m => HG.out _ m)).mono ?_
  rintro e w' ⟨rfl, n, rfl⟩
  go_wp2_with fail
  go_ret
  exact ⟨rfl, _, rfl⟩
set_option maxHeartbeats 400000 in
theorem arePositive_any (xs : List Nat) (v : Value) (w : World) (hs : FS w v xs) :
    Calls Try.prog 15 #[v] w (RB w (!xs.any fun x => !fin .f32 (cn .f32 x) || fle .f32 (cn .f32 x) (cn .f32 0))) := by
  go_enter Try.func15, Try.ntmps15
  go_wp2_with fail
  refine (ContainsFunc_any 26 (fun x => !fin .f32 (cn .f32 x) || fle .f32 (cn .f32 x) (cn .f32 0)) xs v _ hs (fun x w' => by kernel_rfl) (fun x m => arePositive1_any x _)).mono ?_
  rintro e w' ⟨rfl, n, rfl⟩
  go_wp2_with fail
  go_ret
  exact ⟨rfl, _, rfl⟩
set_option maxHeartbeats 400000 in
theorem areFinite_any (xs : List Nat) (v : Value) (w : World) (hs : FS w v xs) :
    Calls Try.prog 36 #[v] w (RB w (!xs.any fun x => !fin .f32 (cn .f32 x))) := by
  go_enter Try.func36, Try.ntmps36
  go_wp2_with fail
  refine (ContainsFunc_any 40 (fun x => !fin .f32 (cn .f32 x)) xs v _ hs (fun x w' => by kernel_rfl) (fun x m => areFinite1_any x _)).mono ?_
  rintro e w' ⟨rfl, n, rfl⟩
  go_wp2_with fail
  go_ret
  exact ⟨rfl, _, rfl⟩
theorem order_self {k : FloatKind} {c : Nat} (h : isN k c = false) : k.format.order c c = some .eq := by
  unfold isN FloatKind.decode at h
  unfold Ieee.Format.order
  cases hd : k.format.read c with
  | nan => rw [hd] at h; cases h
  | infinity s => simp [Ieee.Datum.order, compare, compareOfLessAndEq]
  | number s m e => simp [Ieee.Datum.order, compare, compareOfLessAndEq]
theorem feq_self (k : FloatKind) (c : Nat) : feq k c c = !isN k c := by
  unfold feq
  cases h : isN k c with
  | true => rw [order_nan_l h]; rfl
  | false => rw [order_self h]; rfl
theorem feq_cn_self (k : FloatKind) (x : Nat) : feq k (cn k x) (cn k x) = !isN k x := by rw [feq_self, isN_cn]
set_option maxHeartbeats 1000000 in
theorem sameFloat_cn (a b : Nat) (hab : cn .f64 b = cn .f64 a) (w : World) : Calls Try.prog 20 #[.float .f64 a, .float .f64 b] w (RB w true) := by
  have hn : isN .f64 b = isN .f64 a := by rw [← isN_cn, hab, isN_cn]
  have ha := feq_cn_self .f64 a
  rcases h : isN .f64 a
  · rw [h] at ha
    rcases hz : feq .f64 (cn .f64 a) (cn .f64 0)
    · go_enter Try.func20, Try.ntmps20
      go_wp2_with (first | (with_reducible refine at_list ?_; refine wpList_fop rfl rfl rfl rfl rfl ?_; intro r n hr0; have hr := hr0 _ _ (by first | with_reducible assumption | exact rfl) (by first | with_reducible assumption | exact rfl); clear hr0) | (with_reducible refine at_list ?_; refine wpList_neg rfl rfl rfl ?_; intro r hr0; have hr := hr0 _ (by first | with_reducible assumption | exact rfl); clear hr0) | (with_reducible refine at_list ?_; refine wpList_fop_g rfl rfl rfl rfl rfl ?_; intro r n hr0; have hr := hr0 _ _ (by first | with_reducible assumption | exact rfl) (by first | with_reducible assumption | exact rfl); clear hr0) | (with_reducible refine at_list ?_; refine wpList_wide_g rfl rfl Try.underlying22 Try.underlying32 rfl ?_; intro r n hr0; have hr := hr0 _ (by first | with_reducible assumption | exact rfl); clear hr0) | (with_reducible refine at_list ?_; refine wpList_wide rfl rfl rfl Try.underlying22 Try.underlying32 ?_; intro r n hr0; have hr := hr0 _ (by first | with_reducible assumption | exact rfl); clear hr0))
      go_ret
      exact ⟨by simp, by first | exact ⟨_, rfl⟩ | exact ⟨0, rfl⟩⟩
    · go_enter Try.func20, Try.ntmps20
      go_wp2_with (first | (with_reducible refine at_list ?_; refine wpList_fop rfl rfl rfl rfl rfl ?_; intro r n hr0; have hr := hr0 _ _ (by first | with_reducible assumption | exact rfl) (by first | with_reducible assumption | exact rfl); clear hr0) | (with_reducible refine at_list ?_; refine wpList_neg rfl rfl rfl ?_; intro r hr0; have hr := hr0 _ (by first | with_reducible assumption | exact rfl); clear hr0) | (with_reducible refine at_list ?_; refine wpList_fop_g rfl rfl rfl rfl rfl ?_; intro r n hr0; have hr := hr0 _ _ (by first | with_reducible assumption | exact rfl) (by first | with_reducible assumption | exact rfl); clear hr0) | (with_reducible refine at_list ?_; refine wpList_wide_g rfl rfl Try.underlying22 Try.underlying32 rfl ?_; intro r n hr0; have hr := hr0 _ (by first | with_reducible assumption | exact rfl); clear hr0) | (with_reducible refine at_list ?_; refine wpList_wide rfl rfl rfl Try.underlying22 Try.underlying32 ?_; intro r n hr0; have hr := hr0 _ (by first | with_reducible assumption | exact rfl); clear hr0))
      go_ret
      exact ⟨by simp, by first | exact ⟨_, rfl⟩ | exact ⟨0, rfl⟩⟩
  · rw [h] at ha
    go_enter Try.func20, Try.ntmps20
    go_wp2_with (first | (with_reducible refine at_list ?_; refine wpList_fop rfl rfl rfl rfl rfl ?_; intro r n hr0; have hr := hr0 _ _ (by first | with_reducible assumption | exact rfl) (by first | with_reducible assumption | exact rfl); clear hr0) | (with_reducible refine at_list ?_; refine wpList_neg rfl rfl rfl ?_; intro r hr0; have hr := hr0 _ (by first | with_reducible assumption | exact rfl); clear hr0) | (with_reducible refine at_list ?_; refine wpList_fop_g rfl rfl rfl rfl rfl ?_; intro r n hr0; have hr := hr0 _ _ (by first | with_reducible assumption | exact rfl) (by first | with_reducible assumption | exact rfl); clear hr0) | (with_reducible refine at_list ?_; refine wpList_wide_g rfl rfl Try.underlying22 Try.underlying32 rfl ?_; intro r n hr0; have hr := hr0 _ (by first | with_reducible assumption | exact rfl); clear hr0) | (with_reducible refine at_list ?_; refine wpList_wide rfl rfl rfl Try.underlying22 Try.underlying32 ?_; intro r n hr0; have hr := hr0 _ (by first | with_reducible assumption | exact rfl); clear hr0))
    go_ret
    exact ⟨by simp, by first | exact ⟨_, rfl⟩ | exact ⟨0, rfl⟩⟩
end Go.Proofs.Ytldancjofgobnaa
