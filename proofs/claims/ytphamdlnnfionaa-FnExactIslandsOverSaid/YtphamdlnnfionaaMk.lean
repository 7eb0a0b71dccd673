/-
  Marks in slices of whole numbers and of bools (the laws' own helpers), each proved once. No condition but what each contract says.
-/
import Derived.Test.YtphamdlnnfionaaTurn
import Derived.Test.YtphamdlnnfionaaIl
import Derived.Test.YtphamdlnnfionaaBl
set_option linter.unusedSimpArgs false
set_option linter.unusedVariables false
set_option linter.unusedSectionVars false
namespace Go.Proofs.Ytphamdlnnfionaa
open Go Go.RowKit
def marksI (k : Int) (n : Nat) : List Int := (List.range n).map fun j : Nat => k + j
theorem marksI_length (k : Int) (n : Nat) : (marksI k n).length = n := by simp [marksI]
theorem marksI_getD (k : Int) {n j : Nat} (h : j < n) : (marksI k n).getD j 0 = k + j := by simp [marksI, h]
def marksB (k : Int) (n : Nat) : List Bool := (List.range n).map fun j : Nat => ((k + j) % 3 == 0)
theorem marksB_length (k : Int) (n : Nat) : (marksB k n).length = n := by simp [marksB]
theorem marksB_getD (k : Int) {n j : Nat} (h : j < n) : (marksB k n).getD j false = ((k + j) % 3 == 0) := by simp [marksB, h]
set_option maxHeartbeats 1000000 in
theorem markF2_any (B : Nat) (xs : List Nat) (u : Value) (k0 : Int) (w : World) (hs : OF B w u xs) (hk : 0 ≤ k0 ∧ k0 ≤ 2097152) (hn : xs.length ≤ 1048576) : Calls Try.prog 44 #[u, .int .i64 k0] w (fun e w' => e = .returned (.int .i64 (k0 + xs.length)) ∧ w.grownBy w' u.ownBlock ∧ w'.heap.size = w.heap.size ∧ OF B w' u (marks k0 xs.length)) := by
  obtain ⟨k1, k2⟩ := hk
  rcases hs.view with ⟨rfl, rfl⟩ | ⟨g, c, rfl, v1, v2, v3, v4, v5⟩
  · go_enter Try.func44, Try.ntmps44
    go_wp2
    go_loopw [1, 5] (fun s t wr => s = .int .i64 k0 ∧ t = .int .i64 0 ∧ wr = w) (fun _ _ _ => 0)
    case atStart => exact ⟨rfl, rfl, rfl⟩
    case round =>
      obtain ⟨rfl, rfl, rfl⟩ := hrel
      go_wp2
      go_ret
      exact ⟨by simp, World.grownBy.refl _ _, rfl, World.ownsRow_nil _ _ _ _⟩
  · have HS := Lib.hid hs
    clear hs
    unfold maxLen at v4
    have HV := Lib.hid v5
    clear v5
    go_enter Try.func44, Try.ntmps44
    go_wp2
    go_loopw [1, 5] (fun s t wr => ∃ k : Nat, k ≤ xs.length ∧ t = .int .i64 k ∧ s = .int .i64 (k0 + k) ∧ w.grownBy wr (some g) ∧ wr.heap.size = w.heap.size ∧ Hid (OF B wr (.slice (some ⟨g, 0, none⟩) xs.length c) (marks k0 k ++ xs.drop k))) (fun _ t _ => xs.length - (intOf t).toNat)
    case atStart => exact ⟨0, Nat.zero_le _, rfl, by simp, World.grownBy.refl _ _, rfl, by simpa [marks] using HS⟩
    case round =>
      obtain ⟨k, hk, rfl, rfl, hG, hZ, HO⟩ := hrel
      by_cases hlt : k < xs.length
      · have hlen : (marks k0 k ++ xs.drop k).length = xs.length := by simp [marks_length]; omega
        obtain ⟨old, hcell0, hfr⟩ : ∃ old, wr.cell? ⟨g, k, none⟩ = some old ∧ wr.frozen? ⟨g, k, none⟩ = false := by
          rcases HO.out.view with ⟨h, _⟩ | ⟨g', c', h1, _, _, _, _, h2⟩
          · cases h
          · simp only [Value.slice.injEq, Option.some.injEq, Addr.mk.injEq, and_true] at h1
            obtain ⟨rfl, _⟩ := h1
            have := h2 k (by omega)
            exact ⟨_, this.1, this.2⟩
        have hstore : Hid (OF B (wr.setCell ⟨g, k, none⟩ (.float .f32 (floatOfInt .f32 (k0 + k)))) (.slice (some ⟨g, 0, none⟩) xs.length c) (marks k0 (k + 1) ++ xs.drop (k + 1)) ∧ w.grownBy (wr.setCell ⟨g, k, none⟩ (.float .f32 (floatOfInt .f32 (k0 + k)))) (some g)) := by
          have h1 := HO.out
          unfold OF at h1
          rw [hlen] at h1
          obtain ⟨h2, h3⟩ := World.ownsRow.stored h1 k (.float .f32 (floatOfInt .f32 (k0 + k)))
          have e : marks k0 (k + 1) ++ xs.drop (k + 1) = (marks k0 k ++ xs.drop k).set k (floatOfInt .f32 (k0 + k)) := by
            rw [List.set_append_right _ _ (by simp [marks_length]), marks_length, Nat.sub_self, List.drop_eq_getElem_cons hlt, List.set_cons_zero]
            simp [marks, List.range_succ]
          have e2 : (marks k0 (k + 1) ++ xs.drop (k + 1)).length = xs.length := by simp [marks_length]; omega
          refine ⟨?_, ⟨h3.os.trans hG.os, h3.tape.trans hG.tape, h3.output.trans hG.output, by rw [World.size_setCell]; omega, fun j hj hne => (h3.block j (by omega) hne).trans (hG.block j hj hne)⟩⟩
          unfold OF
          rw [e2, e, List.map_set]
          exact h2
        have HG := Lib.hid hG
        clear hG HS HV HO hlen
        go_wp2
        go_roundw
        case rel => exact ⟨k + 1, by omega, by go_num, by go_num, hstore.out.2, by simp [hZ], hstore.out.1⟩
        case measure => simp [intOf]; omega
      · have he : k = xs.length := by omega
        subst he
        have HO2 : Hid (OF B wr (.slice (some ⟨g, 0, none⟩) xs.length c) (marks k0 xs.length)) := by
          have := HO.out
          rw [List.drop_length, List.append_nil] at this
          exact this
        clear HO HS HV
        go_wp2
        go_ret
        exact ⟨rfl, hG, hZ, HO2.out⟩
set_option maxHeartbeats 1000000 in
theorem markI_any (B : Nat) (xs : List Int) (u : Value) (k0 : Int) (w : World) (hs : OI B w u xs) (hk : 0 ≤ k0 ∧ k0 ≤ 2097152) (hn : xs.length ≤ 1048576) : Calls Try.prog 16 #[u, .int .i64 k0] w (fun e w' => e = .returned (.int .i64 (k0 + xs.length)) ∧ w.grownBy w' u.ownBlock ∧ w'.heap.size = w.heap.size ∧ OI B w' u (marksI k0 xs.length)) := by
  obtain ⟨k1, k2⟩ := hk
  rcases hs.view with ⟨rfl, rfl⟩ | ⟨g, c, rfl, v1, v2, v3, v4, v5⟩
  · go_enter Try.func16, Try.ntmps16
    go_wp2
    go_loopw [1, 5] (fun s t wr => s = .int .i64 k0 ∧ t = .int .i64 0 ∧ wr = w) (fun _ _ _ => 0)
    case atStart => exact ⟨rfl, rfl, rfl⟩
    case round =>
      obtain ⟨rfl, rfl, rfl⟩ := hrel
      go_wp2
      go_ret
      exact ⟨by simp, World.grownBy.refl _ _, rfl, World.ownsRow_nil _ _ _ _⟩
  · have HS := Lib.hid hs
    clear hs
    unfold maxLen at v4
    have HV := Lib.hid v5
    clear v5
    go_enter Try.func16, Try.ntmps16
    go_wp2
    go_loopw [1, 5] (fun s t wr => ∃ k : Nat, k ≤ xs.length ∧ t = .int .i64 k ∧ s = .int .i64 (k0 + k) ∧ w.grownBy wr (some g) ∧ wr.heap.size = w.heap.size ∧ Hid (OI B wr (.slice (some ⟨g, 0, none⟩) xs.length c) (marksI k0 k ++ xs.drop k))) (fun _ t _ => xs.length - (intOf t).toNat)
    case atStart => exact ⟨0, Nat.zero_le _, rfl, by simp, World.grownBy.refl _ _, rfl, by simpa [marksI] using HS⟩
    case round =>
      obtain ⟨k, hk, rfl, rfl, hG, hZ, HO⟩ := hrel
      by_cases hlt : k < xs.length
      · have hlen : (marksI k0 k ++ xs.drop k).length = xs.length := by simp [marksI_length]; omega
        obtain ⟨old, hcell0, hfr⟩ : ∃ old, wr.cell? ⟨g, k, none⟩ = some old ∧ wr.frozen? ⟨g, k, none⟩ = false := by
          rcases HO.out.view with ⟨h, _⟩ | ⟨g', c', h1, _, _, _, _, h2⟩
          · cases h
          · simp only [Value.slice.injEq, Option.some.injEq, Addr.mk.injEq, and_true] at h1
            obtain ⟨rfl, _⟩ := h1
            have := h2 k (by omega)
            exact ⟨_, this.1, this.2⟩
        have hstore : Hid (OI B (wr.setCell ⟨g, k, none⟩ (.int .i64 (k0 + k))) (.slice (some ⟨g, 0, none⟩) xs.length c) (marksI k0 (k + 1) ++ xs.drop (k + 1)) ∧ w.grownBy (wr.setCell ⟨g, k, none⟩ (.int .i64 (k0 + k))) (some g)) := by
          have h1 := HO.out
          unfold OI at h1
          rw [hlen] at h1
          obtain ⟨h2, h3⟩ := World.ownsRow.stored h1 k (.int .i64 (k0 + k))
          have e : marksI k0 (k + 1) ++ xs.drop (k + 1) = (marksI k0 k ++ xs.drop k).set k (k0 + k) := by
            rw [List.set_append_right _ _ (by simp [marksI_length]), marksI_length, Nat.sub_self, List.drop_eq_getElem_cons hlt, List.set_cons_zero]
            simp [marksI, List.range_succ]
          have e2 : (marksI k0 (k + 1) ++ xs.drop (k + 1)).length = xs.length := by simp [marksI_length]; omega
          refine ⟨?_, ⟨h3.os.trans hG.os, h3.tape.trans hG.tape, h3.output.trans hG.output, by rw [World.size_setCell]; omega, fun j hj hne => (h3.block j (by omega) hne).trans (hG.block j hj hne)⟩⟩
          unfold OI
          rw [e2, e, List.map_set]
          exact h2
        have HG := Lib.hid hG
        clear hG HS HV HO hlen
        go_wp2
        go_roundw
        case rel => exact ⟨k + 1, by omega, by go_num, by go_num, hstore.out.2, by simp [hZ], hstore.out.1⟩
        case measure => simp [intOf]; omega
      · have he : k = xs.length := by omega
        subst he
        have HO2 : Hid (OI B wr (.slice (some ⟨g, 0, none⟩) xs.length c) (marksI k0 xs.length)) := by
          have := HO.out
          rw [List.drop_length, List.append_nil] at this
          exact this
        clear HO HS HV
        go_wp2
        go_ret
        exact ⟨rfl, hG, hZ, HO2.out⟩
set_option maxHeartbeats 1000000 in
theorem heldI_any (n : Nat) (u : Value) (k0 : Int) (w : World) (hs : IS w u (marksI k0 n)) (hk : 0 ≤ k0 ∧ k0 ≤ 2097152) (hn : n ≤ 1048576) : Calls Try.prog 17 #[u, .int .i64 k0] w (RI w (k0 + n)) := by
  obtain ⟨p, c, rfl, hc1, hc2, HV⟩ := IS_view hs
  rw [marksI_length] at hc2 HV ⊢
  have HV := Lib.hid HV
  clear hs
  obtain ⟨k1, k2⟩ := hk
  go_enter Try.func17, Try.ntmps17
  go_wp2
  go_loopw [1, 5] (fun s t wr => ∃ k m : Nat, k ≤ n ∧ t = .int .i64 k ∧ s = .int .i64 (k0 + k) ∧ wr = w.drewN m) (fun _ t _ => n - (intOf t).toNat)
  case atStart => exact ⟨0, 0, Nat.zero_le _, rfl, by simp, rfl⟩
  case round =>
    obtain ⟨k, m, hk, rfl, rfl, rfl⟩ := hrel
    by_cases hlt : k < n
    · obtain ⟨b, o, rfl, hcell⟩ := HV.out k hlt
      rw [marksI_getD k0 hlt] at hcell
      clear HV
      go_wp2
      go_roundw
      case rel => exact ⟨k + 1, m, by omega, by go_num, by go_num, rfl⟩
      case measure => simp [intOf]; omega
    · have he : k = n := by omega
      subst he
      go_wp2
      go_ret
      exact ⟨rfl, m, rfl⟩
set_option maxHeartbeats 1000000 in
theorem markB_any (B : Nat) (xs : List Bool) (u : Value) (k0 : Int) (w : World) (hs : OL B w u xs) (hk : 0 ≤ k0 ∧ k0 ≤ 2097152) (hn : xs.length ≤ 1048576) : Calls Try.prog 45 #[u, .int .i64 k0] w (fun e w' => e = .returned (.int .i64 (k0 + xs.length)) ∧ w.grownBy w' u.ownBlock ∧ w'.heap.size = w.heap.size ∧ OL B w' u (marksB k0 xs.length)) := by
  obtain ⟨k1, k2⟩ := hk
  rcases hs.view with ⟨rfl, rfl⟩ | ⟨g, c, rfl, v1, v2, v3, v4, v5⟩
  · go_enter Try.func45, Try.ntmps45
    go_wp2
    go_loopw [1, 5] (fun s t wr => s = .int .i64 k0 ∧ t = .int .i64 0 ∧ wr = w) (fun _ _ _ => 0)
    case atStart => exact ⟨rfl, rfl, rfl⟩
    case round =>
      obtain ⟨rfl, rfl, rfl⟩ := hrel
      go_wp2
      go_ret
      exact ⟨by simp, World.grownBy.refl _ _, rfl, World.ownsRow_nil _ _ _ _⟩
  · have HS := Lib.hid hs
    clear hs
    unfold maxLen at v4
    have HV := Lib.hid v5
    clear v5
    go_enter Try.func45, Try.ntmps45
    go_wp2
    go_loopw [1, 5] (fun s t wr => ∃ k : Nat, k ≤ xs.length ∧ t = .int .i64 k ∧ s = .int .i64 (k0 + k) ∧ w.grownBy wr (some g) ∧ wr.heap.size = w.heap.size ∧ Hid (OL B wr (.slice (some ⟨g, 0, none⟩) xs.length c) (marksB k0 k ++ xs.drop k))) (fun _ t _ => xs.length - (intOf t).toNat)
    case atStart => exact ⟨0, Nat.zero_le _, rfl, by simp, World.grownBy.refl _ _, rfl, by simpa [marksB] using HS⟩
    case round =>
      obtain ⟨k, hk, rfl, rfl, hG, hZ, HO⟩ := hrel
      by_cases hlt : k < xs.length
      · have hlen : (marksB k0 k ++ xs.drop k).length = xs.length := by simp [marksB_length]; omega
        obtain ⟨old, hcell0, hfr⟩ : ∃ old, wr.cell? ⟨g, k, none⟩ = some old ∧ wr.frozen? ⟨g, k, none⟩ = false := by
          rcases HO.out.view with ⟨h, _⟩ | ⟨g', c', h1, _, _, _, _, h2⟩
          · cases h
          · simp only [Value.slice.injEq, Option.some.injEq, Addr.mk.injEq, and_true] at h1
            obtain ⟨rfl, _⟩ := h1
            have := h2 k (by omega)
            exact ⟨_, this.1, this.2⟩
        have hstore : Hid (OL B (wr.setCell ⟨g, k, none⟩ (.bool ((k0 + k) % 3 == 0))) (.slice (some ⟨g, 0, none⟩) xs.length c) (marksB k0 (k + 1) ++ xs.drop (k + 1)) ∧ w.grownBy (wr.setCell ⟨g, k, none⟩ (.bool ((k0 + k) % 3 == 0))) (some g)) := by
          have h1 := HO.out
          unfold OL at h1
          rw [hlen] at h1
          obtain ⟨h2, h3⟩ := World.ownsRow.stored h1 k (.bool ((k0 + k) % 3 == 0))
          have e : marksB k0 (k + 1) ++ xs.drop (k + 1) = (marksB k0 k ++ xs.drop k).set k ((k0 + k) % 3 == 0) := by
            rw [List.set_append_right _ _ (by simp [marksB_length]), marksB_length, Nat.sub_self, List.drop_eq_getElem_cons hlt, List.set_cons_zero]
            simp [marksB, List.range_succ]
          have e2 : (marksB k0 (k + 1) ++ xs.drop (k + 1)).length = xs.length := by simp [marksB_length]; omega
          refine ⟨?_, ⟨h3.os.trans hG.os, h3.tape.trans hG.tape, h3.output.trans hG.output, by rw [World.size_setCell]; omega, fun j hj hne => (h3.block j (by omega) hne).trans (hG.block j hj hne)⟩⟩
          unfold OL
          rw [e2, e, List.map_set]
          exact h2
        have HG := Lib.hid hG
        clear hG HS HV HO hlen
        go_wp2
        go_roundw
        case rel => exact ⟨k + 1, by omega, by go_num, by go_num, hstore.out.2, by simp [hZ], hstore.out.1⟩
        case measure => simp [intOf]; omega
      · have he : k = xs.length := by omega
        subst he
        have HO2 : Hid (OL B wr (.slice (some ⟨g, 0, none⟩) xs.length c) (marksB k0 xs.length)) := by
          have := HO.out
          rw [List.drop_length, List.append_nil] at this
          exact this
        clear HO HS HV
        go_wp2
        go_ret
        exact ⟨rfl, hG, hZ, HO2.out⟩
def IX (B S : Nat) (w : World) (u : Value) (xs : List Int) : Prop := OI B w u xs ∧ ∀ k, u.ownBlock = some k → k < S
section
variable {B S B' S' : Nat} {w w' : World} {u : Value} {xs : List Int}
theorem IX.of (h : OI B w u xs) : IX B w.heap.size w u xs := ⟨h, fun k hk => (h.block k hk).2⟩
theorem IX.is (h : IX B S w u xs) : IS w u xs := h.1.fs
theorem IX.shape (h : IX B S w u xs) : ∃ q c, u = .slice q xs.length c := h.1.shape
theorem IX.rx (h : IX B S w u xs) : RX 2 B S w u xs.length (xs.map (Value.int .i64)) := h
theorem IX.later (h : IX B S w u xs) (hb : Below w.heap.size w w') : IX B S w' u xs := RX.later h.rx hb
theorem IX.alloc (h : IX B S w u xs) (o : Obj) : IX B S (w.alloc o) u xs := RX.alloc h.rx o
theorem IX.drewN (h : IX B S w u xs) (m : Nat) : IX B S (w.drewN m) u xs := RX.drewN h.rx m
theorem IX.turn (h : IX B S w u xs) (hg : Turn B' S' w w') (hd : S ≤ B' ∨ S' ≤ B) : IX B S w' u xs := RX.turn h.rx hg hd
theorem IX.setCell (h : IX B S w u xs) {a : Addr} (ha : a.block < B ∨ S ≤ a.block) (v : Value) : IX B S (w.setCell a v) u xs := RX.setCell h.rx ha v
theorem markIX_any (xs : List Int) (u : Value) (k0 : Int) (w : World) (hs : IX B S w u xs) (hk : 0 ≤ k0 ∧ k0 ≤ 2097152) (hn : xs.length ≤ 1048576) : Calls Try.prog 16 #[u, .int .i64 k0] w (fun e w' => e = .returned (.int .i64 (k0 + xs.length)) ∧ Turn B S w w' ∧ w.heap.size ≤ w'.heap.size ∧ IX B S w' u (marksI k0 xs.length)) := by
  refine (markI_any B xs u k0 w hs.1 hk hn).mono ?_
  rintro e w' ⟨rfl, hg, hz, hO⟩
  exact ⟨rfl, Turn.of hg (RX.lt hs.rx), by omega, hO, hs.2⟩
end
end Go.Proofs.Ytphamdlnnfionaa
