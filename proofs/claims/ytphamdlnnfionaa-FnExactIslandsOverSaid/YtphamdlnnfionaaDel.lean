/-
  slices.IndexFunc, Index, Contains and DeleteFunc over whole numbers; own slices of whole numbers that are cut or appended to. No condition but what each contract says.
-/
import Derived.Test.YtphamdlnnfionaaIl
import Derived.Lib.SliceRun
set_option linter.unusedSimpArgs false
set_option linter.unusedVariables false
set_option linter.unusedSectionVars false
namespace Go.Proofs.Ytphamdlnnfionaa
open Go Go.RowKit
def findZ (p : Int → Bool) (xs : List Int) : Int := match xs.findIdx? p with | some i => i | none => -1
theorem findZ_at (p : Int → Bool) (xs : List Int) (k : Nat) (hk : k < xs.length) (h0 : ∀ j, j < k → p (xs.getD j 0) = false) (h1 : p (xs.getD k 0) = true) : findZ p xs = k := by
  have : xs.findIdx? p = some k := by
    rw [List.findIdx?_eq_some_iff_getElem]
    refine ⟨hk, by simpa [hk] using h1, fun j hj => ?_⟩
    have := h0 j hj
    simpa [show j < xs.length by omega] using this
  simp [findZ, this]
theorem findZ_no (p : Int → Bool) (xs : List Int) (h0 : ∀ j, j < xs.length → p (xs.getD j 0) = false) : findZ p xs = -1 := by
  have : xs.findIdx? p = none := by
    rw [List.findIdx?_eq_none_iff]
    intro x hx
    obtain ⟨j, hj, rfl⟩ := List.getElem_of_mem hx
    have := h0 j hj
    simpa [hj] using this
  simp [findZ, this]
theorem findZ_ge (p : Int → Bool) (xs : List Int) : decide (0 ≤ findZ p xs) = xs.any p := by
  unfold findZ
  cases h : xs.findIdx? p with
  | none =>
    have := List.findIdx?_eq_none_iff.1 h
    simp only [show ¬ (0 : Int) ≤ -1 by omega, decide_false]
    symm
    rw [List.any_eq_false]
    intro x hx
    simpa using this x hx
  | some i =>
    rw [List.findIdx?_eq_some_iff_getElem] at h
    obtain ⟨hi, hp, _⟩ := h
    simp only [show (0 : Int) ≤ (i : Int) by omega, decide_true]
    symm
    rw [List.any_eq_true]
    exact ⟨_, List.getElem_mem hi, hp⟩
/-- No hit, or the first one. -/
theorem findZ_cases (p : Int → Bool) (xs : List Int) : (findZ p xs = -1 ∧ ∀ j, j < xs.length → p (xs.getD j 0) = false) ∨ ∃ k : Nat, k < xs.length ∧ findZ p xs = k ∧ p (xs.getD k 0) = true ∧ ∀ j, j < k → p (xs.getD j 0) = false := by
  unfold findZ
  cases h : xs.findIdx? p with
  | none =>
    have := List.findIdx?_eq_none_iff.1 h
    refine .inl ⟨rfl, fun j hj => ?_⟩
    rw [List.getD_eq_getElem?_getD, List.getElem?_eq_getElem hj]
    exact this _ (List.getElem_mem hj)
  | some i =>
    rw [List.findIdx?_eq_some_iff_getElem] at h
    obtain ⟨hi, hp, h0⟩ := h
    refine .inr ⟨i, hi, rfl, ?_, fun j hj => ?_⟩
    · rw [List.getD_eq_getElem?_getD, List.getElem?_eq_getElem hi]; exact hp
    · have := h0 j hj
      rw [List.getD_eq_getElem?_getD, List.getElem?_eq_getElem (by omega)]
      simpa using this
theorem OI.take {B g c k : Nat} {w : World} {xs : List Int} (h : OI B w (.slice (some ⟨g, 0, none⟩) xs.length c) xs) (hk : k ≤ xs.length) : OI B w (.slice (some ⟨g, 0, none⟩) (xs.take k).length c) (xs.take k) := by
  unfold OI World.ownsRow at h ⊢
  rcases h.2 with ⟨h', _⟩ | ⟨g', cap', cur, h', hb, hg, hnc, hcm, hcs, ht⟩
  · cases h'
  · simp only [Value.slice.injEq, Option.some.injEq, Addr.mk.injEq, and_true, true_and] at h'
    obtain ⟨rfl, rfl⟩ := h'
    refine ⟨by simp, .inr ⟨g, c, cur, rfl, hb, hg, by simp; omega, hcm, hcs, ?_⟩⟩
    have e : (xs.take k).length = k := by simp; omega
    rw [e, List.map_take, ← ht, List.take_take]
    congr 1; omega
theorem OI.stored {B g c : Nat} {w : World} {xs : List Int} (h : OI B w (.slice (some ⟨g, 0, none⟩) xs.length c) xs) (j : Nat) (u : Int) : OI B (w.setCell ⟨g, j, none⟩ (.int .i64 u)) (.slice (some ⟨g, 0, none⟩) (xs.set j u).length c) (xs.set j u) ∧ w.grownBy (w.setCell ⟨g, j, none⟩ (.int .i64 u)) (some g) := by
  obtain ⟨a, b⟩ := World.ownsRow.stored h j (.int .i64 u)
  refine ⟨?_, b⟩
  unfold OI
  rw [List.length_set, List.map_set]
  exact a
theorem grown_trans {w w' w'' : World} {r : Option Nat} (h : w.grownBy w' r) (h' : w'.grownBy w'' r) : w.grownBy w'' r := ⟨h'.os.trans h.os, h'.tape.trans h.tape, h'.output.trans h.output, Nat.le_trans h.size h'.size, fun j hj hne => (h'.block j (Nat.lt_of_lt_of_le hj h.size) hne).trans (h.block j hj hne)⟩
theorem grown_draws {w w' : World} {r : Option Nat} (h : w.grownBy w' r) (n : Nat) : w.grownBy (w'.drewN n) r := ⟨h.os, h.tape, h.output, h.size, h.block⟩
theorem OI.stores {B g c : Nat} : ∀ (m i : Nat) (w : World) (xs : List Int), OI B w (.slice (some ⟨g, 0, none⟩) xs.length c) xs → ∃ ys, ys.length = xs.length ∧ ys.take i = xs.take i ∧ OI B (w.setCells g i (List.replicate m (.int .i64 0))) (.slice (some ⟨g, 0, none⟩) ys.length c) ys ∧ w.grownBy (w.setCells g i (List.replicate m (.int .i64 0))) (some g) ∧ (w.setCells g i (List.replicate m (.int .i64 0))).heap.size = w.heap.size
  | 0, i, w, xs, h => ⟨xs, rfl, rfl, h, World.grownBy.refl _ _, rfl⟩
  | m + 1, i, w, xs, h => by
    obtain ⟨a, b⟩ := h.stored i 0
    obtain ⟨ys, l, t, o, gr, sz⟩ := OI.stores m (i + 1) _ _ a
    refine ⟨ys, by simpa using l, ?_, o, grown_trans b gr, (show (World.setCells (w.setCell ⟨g, i, none⟩ (.int .i64 0)) g (i + 1) _).heap.size = _ by rw [sz, World.size_setCell])⟩
    have := congrArg (List.take i) t
    rw [List.take_take, List.take_take, Nat.min_eq_left (by omega)] at this
    rw [this, List.take_set_of_le (Nat.le_refl _)]
set_option maxHeartbeats 1000000 in
theorem IndexFuncI_any (g : Nat) (p : Int → Bool) (xs : List Int) (v : Value) (w : World) (hs : IS w v xs) (hcf : ∀ x w', (callFunc g #[.int .i64 x]).run Try.prog w' = .ok (.enter g #[.int .i64 x]) w')
    (hg : ∀ j, j < xs.length → ∀ m, Calls Try.prog g #[.int .i64 (xs.getD j 0)] (w.drewN m) (RB (w.drewN m) (p (xs.getD j 0)))) :
    Calls Try.prog 67 #[v, .func (.func g) #[] #[]] w (RI w (findZ p xs)) := by
  have HG := Lib.hid hg; clear hg
  obtain ⟨q, c, rfl, hc1, hc0, HV⟩ := IS_view hs
  have HV := Lib.hid HV
  clear hs
  go_enter Try.func67, Try.ntmps67
  go_wp2
  go_loopw [8] (fun t wr => ∃ k m : Nat, k ≤ xs.length ∧ t = .int .i64 k ∧ wr = w.drewN m ∧ Hid (∀ j, j < k → p (xs.getD j 0) = false)) (fun t _ => xs.length - (intOf t).toNat)
  case atStart => exact ⟨0, 0, Nat.zero_le _, rfl, rfl, fun j hj => by omega⟩
  case round =>
    obtain ⟨k, m, hk, rfl, rfl, hp⟩ := hrel
    by_cases hlt : k < xs.length
    · obtain ⟨b, o, rfl, hcell⟩ := HV.out k hlt
      clear HV
      generalize hx : xs.getD k 0 = x at hcell
      have Hx := Lib.hid hx; clear hx
      rcases hb : p x
      · go_wp2_with fail
        refine (Hx.out ▸ HG.out k hlt m).mono ?_
        rintro e w' ⟨rfl, n, rfl⟩
        go_wp2_with fail
        go_roundw
        case rel => exact ⟨k + 1, m + n, by omega, by go_num, by simp, fun j hj => by rcases Nat.lt_succ_iff_lt_or_eq.1 hj with h | rfl; exact hp j h; rw [Hx.out]; exact hb⟩
        case measure => simp [intOf]; omega
      · go_wp2_with fail
        refine (Hx.out ▸ HG.out k hlt m).mono ?_
        rintro e w' ⟨rfl, n, rfl⟩
        go_wp2_with fail
        go_ret
        exact ⟨by rw [findZ_at p xs k hlt hp (by rw [Hx.out]; exact hb)]; rfl, m + n, by simp⟩
    · go_wp2
      go_ret
      exact ⟨by rw [findZ_no p xs (fun j hj => hp.out j (by omega))]; rfl, m, rfl⟩
/-- What is told while numbers are struck. -/
def DelInv (p : Int → Bool) (xs L : List Int) (i j : Nat) : Prop := i < j ∧ j ≤ xs.length ∧ L.length = xs.length ∧ L.take i = (xs.take j).filter (fun x => !p x) ∧ ∀ t, j ≤ t → L.getD t 0 = xs.getD t 0
theorem take_filter (f : Int → Bool) (xs : List Int) {j : Nat} (h : j < xs.length) : (xs.take (j + 1)).filter f = (xs.take j).filter f ++ (if f (xs.getD j 0) then [xs.getD j 0] else []) := by
  rw [List.take_add_one, List.filter_append, List.getElem?_eq_getElem h, List.getD_eq_getElem?_getD, List.getElem?_eq_getElem h]
  simp only [Option.toList_some, Option.getD_some, List.filter_cons, List.filter_nil]
theorem filter_all {f : Int → Bool} {xs : List Int} {k : Nat} (hk : k ≤ xs.length) (h : ∀ j, j < k → f (xs.getD j 0) = true) : (xs.take k).filter f = xs.take k := by
  rw [List.filter_eq_self]
  intro x hx
  obtain ⟨j, hj, rfl⟩ := List.getElem_of_mem hx
  have hj' : j < k := by simp at hj; omega
  have := h j hj'
  rw [List.getD_eq_getElem?_getD, List.getElem?_eq_getElem (by omega)] at this
  simpa using this
theorem DelInv.start {p : Int → Bool} {xs : List Int} {k : Nat} (hk : k < xs.length) (h1 : p (xs.getD k 0) = true) (h0 : ∀ j, j < k → p (xs.getD j 0) = false) : DelInv p xs xs k (k + 1) := by
  refine ⟨by omega, by omega, rfl, ?_, fun t _ => rfl⟩
  rw [take_filter _ _ hk, if_neg (by rw [h1]; simp), List.append_nil, filter_all (by omega)]
  intro j hj; rw [h0 j hj]; rfl
theorem DelInv.skip {p : Int → Bool} {xs L : List Int} {i j : Nat} (h : DelInv p xs L i j) (hj : j < xs.length) (h1 : p (xs.getD j 0) = true) : DelInv p xs L i (j + 1) := by
  obtain ⟨a, b, c, d, e⟩ := h
  exact ⟨by omega, by omega, c, by rw [take_filter _ _ hj, if_neg (by rw [h1]; simp), List.append_nil]; exact d, fun t ht => e t (by omega)⟩
theorem DelInv.keep {p : Int → Bool} {xs L : List Int} {i j : Nat} (h : DelInv p xs L i j) (hj : j < xs.length) (h1 : p (xs.getD j 0) = false) : DelInv p xs (L.set i (xs.getD j 0)) (i + 1) (j + 1) := by
  obtain ⟨a, b, c, d, e⟩ := h
  refine ⟨by omega, by omega, by simpa using c, ?_, fun t ht => ?_⟩
  · rw [take_filter _ _ hj, if_pos (by rw [h1]; rfl), ← d, List.take_add_one, List.take_set_of_le (Nat.le_refl _), List.getElem?_set_self (by omega)]
    rfl
  · rw [List.getD_eq_getElem?_getD, List.getElem?_set_ne (by omega), ← List.getD_eq_getElem?_getD]
    exact e t (by omega)
theorem DelInv.done {p : Int → Bool} {xs L : List Int} {i : Nat} (h : DelInv p xs L i xs.length) : L.take i = xs.filter (fun x => !p x) := by
  obtain ⟨a, b, c, d, e⟩ := h
  rw [d, List.take_length]
set_option maxHeartbeats 2000000 in
theorem DeleteFuncI_any (g : Nat) (p : Int → Bool) (B : Nat) (xs : List Int) (u : Value) (w : World) (hs : OI B w u xs) (hcf : ∀ x w', (callFunc g #[.int .i64 x]).run Try.prog w' = .ok (.enter g #[.int .i64 x]) w')
    (hg : ∀ x w', Calls Try.prog g #[.int .i64 x] w' (RB w' (p x))) :
    Calls Try.prog 64 #[u, .func (.func g) #[] #[]] w (fun e w' => ∃ u', e = .returned u' ∧ w.grownBy w' u.ownBlock ∧ w'.heap.size = w.heap.size ∧ OI B w' u' (xs.filter fun x => !p x)) := by
  have HG := Lib.hid hg; clear hg
  have HCF := Lib.hid hcf
  have HS := Lib.hid hs
  have HI := Lib.hid (IndexFuncI_any g p xs u w hs.fs hcf (fun j _ m => HG.out _ _))
  rcases findZ_cases p xs with ⟨e0, hno⟩ | ⟨k0, hk0, e0, ht, hall⟩
  · have HF : Hid (xs.filter (fun x => !p x) = xs) := by
      have := filter_all (f := fun x => !p x) (Nat.le_refl xs.length) (fun j hj => by rw [hno j hj]; rfl)
      rw [List.take_length] at this; exact this
    obtain ⟨q, c, rfl⟩ := hs.shape
    rw [e0] at HI
    clear hs hno e0 hcf
    go_enter Try.func64, Try.ntmps64
    go_wp2_with (go_at_call 67; refine HI.out.mono ?_; rintro e w' ⟨rfl, n, rfl⟩)
    go_ret
    exact ⟨_, rfl, grown_draws (World.grownBy.refl _ _) _, rfl, by rw [HF.out]; exact HS.out.drewN n⟩
  rw [e0] at HI
  rcases hs.view with ⟨rfl, rfl⟩ | ⟨b, c, rfl, v1, v2, v3, v4, v5⟩
  · simp at hk0
  have HD := Lib.hid (DelInv.start hk0 ht hall)
  have hne1 : ((k0 : Int) == -1) = false := beq_eq_false_iff_ne.2 (by omega)
  unfold maxLen at v4
  clear hs v5 ht hall e0
  go_enter Try.func64, Try.ntmps64
  go_wp2_with (go_at_call 67; refine HI.out.mono ?_; rintro e w' ⟨rfl, n, rfl⟩)
  go_loopw [5, 6, 7] (fun s t x wr => ∃ (i j : Nat) (L : List Int), j ≤ xs.length ∧ i < j ∧ s = .int .i64 i ∧ t = .int .i64 j ∧ w.grownBy wr (some b) ∧ wr.heap.size = w.heap.size ∧ Hid (OI B wr (.slice (some ⟨b, 0, none⟩) xs.length c) L) ∧ Hid (DelInv p xs L i j)) (fun _ t _ _ => xs.length - (intOf t).toNat)
  case atStart => exact ⟨k0, k0 + 1, xs, by omega, by omega, rfl, by go_num, grown_draws (World.grownBy.refl _ _) _, rfl, HS.out.drewN _, HD.out⟩
  case round =>
    obtain ⟨i, j, L, hj, hij, rfl, rfl, hG, hZ, HO, HI2⟩ := hrel
    have hLl : L.length = xs.length := HI2.out.2.2.1
    have hv : ∀ t, t < xs.length → wr.cell? ⟨b, t, none⟩ = some (.int .i64 (L.getD t 0)) ∧ wr.frozen? ⟨b, t, none⟩ = false := by
      have HO := HO.out
      rw [← hLl] at HO ⊢
      rcases HO.view with ⟨h, _⟩ | ⟨g', c', h1, _, _, _, _, h2⟩
      · cases h
      · simp only [Value.slice.injEq, Option.some.injEq, Addr.mk.injEq, and_true] at h1
        obtain ⟨rfl, _⟩ := h1
        exact h2
    have HGr := Lib.hid hG
    have HZr := Lib.hid hZ
    have HL := Lib.hid hLl
    clear hLl hG hZ
    by_cases hlt : j < xs.length
    · obtain ⟨cj, _⟩ := hv j hlt
      obtain ⟨ci, fi⟩ := hv i (by omega)
      rw [HI2.out.2.2.2.2 j (Nat.le_refl _)] at cj
      have HX1 : Hid (p (xs.getD j 0) = true → DelInv p xs L i (j + 1)) := fun h => HI2.out.skip hlt h
      have HX2 : Hid (p (xs.getD j 0) = false → DelInv p xs (L.set i (xs.getD j 0)) (i + 1) (j + 1)) := fun h => HI2.out.keep hlt h
      have HX3 : Hid (OI B (wr.setCell ⟨b, i, none⟩ (.int .i64 (xs.getD j 0))) (.slice (some ⟨b, 0, none⟩) xs.length c) (L.set i (xs.getD j 0)) ∧ wr.grownBy (wr.setCell ⟨b, i, none⟩ (.int .i64 (xs.getD j 0))) (some b)) := by
        have HO := HO.out
        rw [← HL.out] at HO
        have := HO.stored i (xs.getD j 0)
        rw [List.length_set, HL.out] at this
        exact this
      clear hv
      generalize xs.getD j 0 = x at cj HX1 HX2 HX3
      generalize L.getD i 0 = y at ci
      have HC := Lib.hid (HG.out x wr)
      rcases hp : p x
      · rw [hp] at HC
        go_wp2_with fail
        refine HC.out.mono ?_
        rintro e w' ⟨rfl, n, rfl⟩
        go_wp2_with fail
        go_roundw
        case rel => exact ⟨i + 1, j + 1, L.set i x, by omega, by omega, by go_num, by go_num, grown_draws (grown_trans HGr.out HX3.out.2) _, by rw [← HZr.out]; simp, HX3.out.1.drewN _, HX2.out hp⟩
        case measure => simp [intOf]; omega
      · rw [hp] at HC
        go_wp2_with fail
        refine HC.out.mono ?_
        rintro e w' ⟨rfl, n, rfl⟩
        go_wp2_with fail
        go_roundw
        case rel => exact ⟨i, j + 1, L, by omega, by omega, rfl, by go_num, grown_draws HGr.out _, HZr.out, HO.out.drewN _, HX1.out hp⟩
        case measure => simp [intOf]; omega
    · obtain rfl : j = xs.length := by omega
      have hcl : ∀ ty, (Builtin.clear_ #[34] ty #[.slice (some ⟨b, i, none⟩) (xs.length - i) (c - i)]).run Try.prog wr = .ok (.tuple #[]) (wr.setCells b i (List.replicate (xs.length - i) (.int .i64 0))) :=
        fun ty => Lib.run_clear_slice wr _ _ ty _ Try.underlying34 (fun w => by go_simp) rfl rfl b i _ _ (by omega) (fun t ht => by rw [(hv (i + t) (by omega)).1]; rfl) (fun t ht => (hv (i + t) (by omega)).2)
      have HW : Hid (w.grownBy (wr.setCells b i (List.replicate (xs.length - i) (.int .i64 0))) (some b) ∧ (wr.setCells b i (List.replicate (xs.length - i) (.int .i64 0))).heap.size = w.heap.size ∧ OI B (wr.setCells b i (List.replicate (xs.length - i) (.int .i64 0))) (.slice (some ⟨b, 0, none⟩) i c) (xs.filter fun x => !p x)) := by
        have HO := HO.out
        rw [← HL.out] at HO
        obtain ⟨ys, l, t, o, gr, sz⟩ := OI.stores (B := B) (g := b) (c := c) (xs.length - i) i wr L HO
        refine ⟨grown_trans HGr.out gr, sz.trans HZr.out, ?_⟩
        have hil : i ≤ ys.length := by rw [l, HL.out]; omega
        have := o.take hil
        rw [t, HI2.out.done] at this
        have e : (xs.filter fun x => !p x).length = i := by rw [← HI2.out.done]; simp; rw [HL.out]; omega
        rw [e] at this
        exact this
      have hic : (c : Int) ≠ i := by omega
      have hic' : i < c := by omega
      clear hv HO
      go_wp2
      go_ret
      exact ⟨_, rfl, HW.out.1, HW.out.2.1, HW.out.2.2⟩
end Go.Proofs.Ytphamdlnnfionaa
