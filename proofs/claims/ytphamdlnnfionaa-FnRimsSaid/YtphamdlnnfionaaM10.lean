/-
  A map from whole numbers to bools that the call has made: what it holds, told as a list of bools; reading and setting. No condition but what each law says.
  Paths to ever cooler cells: the program's and the reference's. No condition but what each contract says.
  Islands of warm cells: the program's. No condition but what each contract says.
-/
import Derived.Test.YtphamdlnnfionaaM7
import Derived.Maps.OwnOps
import Derived.Maps.OwnSet
set_option linter.unusedSimpArgs false
set_option linter.unusedVariables false
set_option linter.unusedSectionVars false
namespace Go.Proofs.Ytphamdlnnfionaa
open Go Go.RowKit
open Go.ChangeShapes Go.WideShapes Go.ChangeAt Go.RowKit Go.Joins
open Go.Maps
theorem lawI64 : Keyed Try.prog 2 := int_keyed Try.underlying2
theorem zeroBool (w : World) : (zeroValue 4).run Try.prog w = .ok (.bool false) w := by kernel_rfl
theorem plainElem_bool_inv {H : Type} {P : Program} {e : TypeId} (he : P.underlying e = some .bool) {v : Value} {z : DataW H × List MemPlace} (h : plainElem P e v = some z) : ∃ x, v = .bool x ∧ z = (.lit (.bool x), []) := by
  unfold plainElem at h
  rw [he] at h
  split at h
  · cases h; exact ⟨_, rfl, rfl⟩
  · rename_i h1; cases h1
  · rename_i h1; cases h1
  · cases h
/-- Block b is a map of the call's own: what it says of the numbers below the list's length is what the list says. -/
def MB (w : World) (b : Nat) (S : List Bool) : Prop := ∃ D : DataW Unit, w.ownsMap Try.prog 2 (plainElem Try.prog 4) b (cntT S) D ∧ ∀ k : Nat, k < S.length → D.atKey (.int .i64 k) (.lit (.bool false)) = .lit (.bool (S.getD k false))
theorem MB.kept {w w' : World} {b : Nat} {S : List Bool} {row : Option Nat} (h : MB w b S) (hg : w.grownBy w' row) (hne : some b ≠ row) : MB w' b S := by
  obtain ⟨D, h1, h2⟩ := h
  exact ⟨D, h1.kept hg hne, h2⟩
theorem MB.lt {w : World} {b : Nat} {S : List Bool} (h : MB w b S) : b < w.heap.size := by
  obtain ⟨D, h1, _⟩ := h
  exact h1.lt
theorem MB.later {w w' : World} {b : Nat} {S : List Bool} {B : Nat} (h : MB w b S) (hb : Below B w w') (hB : b < B) : MB w' b S := by
  obtain ⟨D, ⟨es, clock, h1, F, hs, hD⟩, h2⟩ := h
  exact ⟨D, ⟨es, clock, (hb.block b hB).trans h1, F, hs, hD⟩, h2⟩
theorem MB.made (w : World) (n : Nat) : MB (w.alloc (.map #[] 0)) w.heap.size (List.replicate n false) :=
  ⟨.map [], (World.ownsMap_made w _ _ _).mono (Nat.zero_le _), fun k hk => by
    have : (List.replicate n false).getD k false = false := by rw [List.getD_eq_getElem?_getD, List.getElem?_replicate]; split <;> rfl
    rw [this]; rfl⟩
theorem wpList_lookB {w : World} {ops : Array Oper} {rest : List Oper} {o : Oper} {a : Act} {Q : Exit → Act → World → Prop} (hg : o.guard = none) {m x : Operand} (hop : o.op = Op.lookup 66 m x false)
    {b : Nat} {S : List Bool} (hm : a.eval m = .map (some b)) (hO : MB w b S) {k : Nat} (hk : k < S.length) (hs : S.length ≤ 1048576) (hx : a.eval x = .int .i64 k) {c : Bool} (hc0 : S.getD k false = c)
    (hK : wpList Try.prog ops Q rest (a.put o.dst (.bool c)) w) : wpList Try.prog ops Q (o :: rest) a w := by
  refine wpList_plain hg fun K' hK' => ?_
  obtain ⟨D, hown, hat⟩ := hO
  obtain ⟨v, ps, hrun, hv⟩ := hown.lookup lawI64 Try.underlying66 (zeroBool w) (plainElem_bool Try.underlying4 false) (keyOf_int_mk Try.underlying2 (WalkArith.wf_i64 (show (-9223372036854775808 : Int) ≤ (k : Int) ∧ (k : Int) ≤ 9223372036854775807 by omega)))
  obtain ⟨c, rfl, hc⟩ := plainElem_bool_inv Try.underlying4 hv
  simp only [Prod.mk.injEq] at hc
  have h2 := hat k hk
  rw [hc.1] at h2
  simp only [DataW.lit.injEq, Lit.bool.injEq] at h2
  rw [hc0] at h2
  subst h2
  unfold Oper.wp
  simp [execOp, hop, hm, hx, hrun, Result.andThen]
  exact hK' _ _ hK
theorem wpList_setB {w : World} {ops : Array Oper} {rest : List Oper} {o : Oper} {a : Act} {Q : Exit → Act → World → Prop} (hg : o.guard = none) {m x v : Operand} (hop : o.op = Op.mapUpdate 66 m x v)
    {b : Nat} {S : List Bool} (hm : a.eval m = .map (some b)) (hO : MB w b S) {k : Nat} (hk : k < S.length) (hs : S.length ≤ 1048576) (hf : S.getD k false = false) (hx : a.eval x = .int .i64 k) (hv : a.eval v = .bool true)
    (hK : ∀ w', MB w' b (S.set k true) → w.grownBy w' (some b) → w'.heap.size = w.heap.size → wpList Try.prog ops Q rest (a.put o.dst undef) w') : wpList Try.prog ops Q (o :: rest) a w := by
  obtain ⟨D, hown, hat⟩ := hO
  have hkey := keyOf_int_mk (P := Try.prog) Try.underlying2 (WalkArith.wf_i64 (show (-9223372036854775808 : Int) ≤ (k : Int) ∧ (k : Int) ≤ 9223372036854775807 by omega))
  have hM := hown.isMap
  refine wpList_plain hg fun K' hK' => ?_
  have hc := cntT_le S
  obtain ⟨es, clock, hb, F, hsz, hD⟩ := id hown
  obtain ⟨w', hrun, r1, r2⟩ := hown.update lawI64 Try.underlying66 (by unfold maxLen; omega) hkey (plainElem_bool Try.underlying4 true)
  obtain ⟨es', clock', hrun', _⟩ := Maps.fit_store (R' := plainElem Try.prog 4) lawI64 Try.underlying66 hb F (by unfold maxLen; omega) (fun _ _ _ _ hz => hz) hkey (plainElem_bool Try.underlying4 true)
  have hw' : w'.heap.size = w.heap.size := by
    rw [hrun] at hrun'
    cases hrun'
    simp [Go.ChangeMaps.setBlock]
  unfold Oper.wp
  simp [execOp, hop, hm, hx, hv, hrun, Result.andThen]
  refine hK' _ _ (hK w' ⟨_, by rw [cntT_set S k hk hf]; exact r1, fun j hj => ?_⟩ r2 hw')
  rw [List.length_set] at hj
  by_cases e : j = k
  · subst e
    rw [atKey_put_same hM (by trivial), set_getD_same hk]
  · rw [atKey_put_other (by simp; omega), hat j hj, set_getD_ne (by omega)]
/-- One number appended: only the row itself turns. -/
theorem wpList_appJ {B : Nat} {xs : List Int} {v : Value} {b : Nat} {r : Int} {w : World} {ops : Array Oper} {rest : List Oper} {o : Oper} {a : Act} {Q : Exit → Act → World → Prop} (hg : o.guard = .none) {s x : Operand}
    (ho : o.op = .call { callee := .builtin .append, args := #[s, x], argTypes := #[34, 34] }) (hs : a.eval s = v) (hx : a.eval x = .slice (some ⟨b, 0, .none⟩) 1 1) (hO : OI B w v xs) (hc : w.cell? ⟨b, 0, .none⟩ = some (.int .i64 r)) (hn : xs.length < 1048576) (hB : B ≤ w.heap.size)
    (h : ∀ q c w', OI B w' (.slice q (xs.length + 1) c) (xs ++ [r]) → Below B w w' → w.grownBy w' v.ownBlock → ((Value.slice q (xs.length + 1) c).ownBlock = v.ownBlock ∨ (Value.slice q (xs.length + 1) c).ownBlock = some w.heap.size) → wpList Try.prog ops Q rest (a.put o.dst (.slice q (xs.length + 1) c)) w') : wpList Try.prog ops Q (o :: rest) a w := by
  obtain ⟨i0, hi, hz0, hz1, hz2⟩ := info_parts Try.infoI64
  refine wpList_append_own_at w hg s x 34 ho B 2 i0 (.int .i64 0) 1 8 Try.underlying34 hi hz0 hz1 hz2 rfl (by decide) v xs.length (xs.map (Value.int .i64)) hs hO ⟨b, 0, .none⟩ 1 1 [.int .i64 r] hx rfl ?_ ?_ (by unfold maxLen; omega) (by omega) hB ?_
  · intro j u hj
    match j, hj with
    | 0, hj => simp at hj; subst hj; simpa [Addr.add] using hc
    | j + 1, hj => simp at hj
  · intro u hu; simp at hu; subst hu; rfl
  · intro v' w' hown hgrow _ hblk
    have hO' : OI B w' v' (xs ++ [r]) := by
      unfold OI
      simpa using hown
    obtain ⟨q, c, rfl⟩ := hO'.shape
    simp only [List.length_append, List.length_cons, List.length_nil, Nat.zero_add] at hO' hblk ⊢
    exact h q c w' hO' ((Below.refl _ _).grown hgrow hB fun k hk => (OI.block hO k hk).1) hgrow hblk
theorem OI.turned {B b : Nat} {w w' : World} {u : Value} {xs : List Int} (h : OI B w u xs) (hg : w.grownBy w' (some b)) (hb : b < B) : OI B w' u xs := by
  refine h.kept hg ?_
  cases hu : u.ownBlock with
  | none => exact .inl rfl
  | some k => exact .inr (fun e => by have := (h.block k hu).1; simp at e; omega)
theorem below_of_grown {B b : Nat} {w w' : World} (hg : w.grownBy w' (some b)) (hb : B ≤ b) (hB : B ≤ w.heap.size) : Below B w w' := (Below.refl B w).grown hg hB (fun k hk => by cases hk; exact hb)
end Go.Proofs.Ytphamdlnnfionaa
set_option linter.unusedSimpArgs false
set_option linter.unusedVariables false
set_option linter.unusedSectionVars false
namespace Go.Proofs.Ytphamdlnnfionaa
open Go Go.RowKit
open Go.ChangeShapes Go.WideShapes Go.ChangeAt Go.RowKit Go.Joins
theorem OI.litn (w : World) (B m n : Nat) (xs : List Int) (hn : xs.length = n) (hB : B ≤ w.heap.size) (hx : n ≤ 1000) (hm : m = w.heap.size) : OI B (w.alloc (.cells (xs.map (Value.int .i64)).toArray 2)) (.slice (some ⟨m, 0, none⟩) n n) xs := by
  subst hm
  exact OI.lit w B n xs hn hB hx
set_option maxHeartbeats 8000000 in
theorem implCoolPath_any (P : Pl) (l : Lay) (i : Int) (w : World) (E : List Int) (b : Bool) (hR : coolR P i E b) (hs : P.fs w l) : Calls Try.prog 19 #[.agg #[.int .i64 P.W, .int .i64 P.H, .slice l.p1 P.a.length l.c1, .slice l.p2 P.b.length l.c2, .slice l.p3 P.c.length l.c3, .slice l.p4 P.d.length l.c4], .int .i64 i] w (BIB w E b) := by
  have HS := Lib.hid hs
  clear hs
  have HV := Lib.hid (fun w h => implValidPlate_any P l w h)
  rcases h0 : P.ok
  · rw [h0] at HV
    have HE : Hid (b = false ∧ E = []) := by
      rcases hR with ⟨h1, h2, _⟩ | ⟨_, h, _⟩
      · exact ⟨h1, h2⟩
      · rw [h0] at h; exact absurd h.1 (by simp)
    clear hR
    go_enter Try.func19, Try.ntmps19
    go_wp2_with (first | (with_reducible refine at_list ?_; refine wpList_fop rfl rfl rfl rfl rfl ?_; intro r n hr0; have hr := hr0 _ _ (by first | with_reducible assumption | exact rfl) (by first | with_reducible assumption | exact rfl); clear hr0) | (with_reducible refine at_list ?_; refine wpList_neg rfl rfl rfl ?_; intro r hr0; have hr := hr0 _ (by first | with_reducible assumption | exact rfl); clear hr0) | (with_reducible refine at_list ?_; refine wpList_fop_g rfl rfl rfl rfl rfl ?_; intro r n hr0; have hr := hr0 _ _ (by first | with_reducible assumption | exact rfl) (by first | with_reducible assumption | exact rfl); clear hr0) | (with_reducible refine at_list ?_; refine wpList_wide_g rfl rfl Try.underlying26 Try.underlying54 rfl ?_; intro r n hr0; have hr := hr0 _ (by first | with_reducible assumption | exact rfl); clear hr0) | (with_reducible refine at_list ?_; refine wpList_wide rfl rfl rfl Try.underlying26 Try.underlying54 ?_; intro r n hr0; have hr := hr0 _ (by first | with_reducible assumption | exact rfl); clear hr0) | (go_at_call 36; refine ((HV.out _ (HS.out.later (by (repeat (first | (with_reducible exact Below.refl _ _) | (with_reducible assumption) | (with_reducible refine below_then ?_ (by assumption)) | (with_reducible refine Below.trans ?_ (by assumption)) | (with_reducible refine below_drewN ?_ _) | (with_reducible apply Below.drew) | (with_reducible refine below_alloc ?_ _) | refine Below.setCell ?_ (by first | (simp; done) | (simp; omega)) _))))) ).mono ?_; rintro e w' ⟨rfl, hb⟩; obtain ⟨hT, hk⟩ := bv_next hb (by (repeat (with_reducible first | assumption | apply Trk.alloc | apply Trk.setCell | apply Trk.drewN | apply Trk.drew | exact Trk.nil _))); simp only [SameOn, World.size_alloc, World.size_setCell, World.size_drew, size_drewN', and_true] at hk; have hsz := Below.size hb; (try simp only [World.size_alloc, World.size_setCell, World.size_drew, size_drewN'] at hsz)) | (go_at_call 47; refine (isCell_any _ _ _ _ (by assumption)).mono ?_; rintro e w' ⟨rfl, hb⟩; obtain ⟨hT, hk⟩ := bv_next hb (by (repeat (with_reducible first | assumption | apply Trk.alloc | apply Trk.setCell | apply Trk.drewN | apply Trk.drew | exact Trk.nil _))); simp only [SameOn, World.size_alloc, World.size_setCell, World.size_drew, size_drewN', and_true] at hk; have hsz := Below.size hb; (try simp only [World.size_alloc, World.size_setCell, World.size_drew, size_drewN'] at hsz)) | (go_at_call 38; refine (neighbours_any _ _ _ _ (by omega) (by omega) (by omega)).mono ?_; rintro e w' ⟨u, rfl, hb, hO⟩; obtain ⟨pu, cu, rfl⟩ := OI.shape hO; (try simp only [World.size_alloc, World.size_setCell, World.size_drew, World.drewN] at hO); obtain ⟨hT, hk⟩ := bv_next hb (by (repeat (with_reducible first | assumption | apply Trk.alloc | apply Trk.setCell | apply Trk.drewN | apply Trk.drew | exact Trk.nil _))); simp only [SameOn, World.size_alloc, World.size_setCell, World.size_drew, size_drewN', and_true] at hk; have hsz := Below.size hb; (try simp only [World.size_alloc, World.size_setCell, World.size_drew, size_drewN'] at hsz)))
    all_goals
      go_ret2
      exact ⟨_, by rw [HE.out.1]; rfl, by (repeat (first | (with_reducible exact Below.refl _ _) | (with_reducible assumption) | (with_reducible refine below_then ?_ (by assumption)) | (with_reducible refine Below.trans ?_ (by assumption)) | (with_reducible refine below_drewN ?_ _) | (with_reducible apply Below.drew) | (with_reducible refine below_alloc ?_ _) | refine Below.setCell ?_ (by first | (simp; done) | (simp; omega)) _)), by rw [HE.out.2]; exact OI.nil0 _ _⟩
  rw [h0] at HV
  have HIC := Lib.hid (fun w => isCell_any P l i w h0)
  rcases h1 : P.cell i
  · rw [h1] at HIC
    have HE : Hid (b = false ∧ E = []) := by
      rcases hR with ⟨h1, h2, _⟩ | ⟨_, h, _⟩
      · exact ⟨h1, h2⟩
      · rw [h1] at h; exact absurd h.2 (by simp)
    clear hR
    go_enter Try.func19, Try.ntmps19
    go_wp2_with (first | (with_reducible refine at_list ?_; refine wpList_fop rfl rfl rfl rfl rfl ?_; intro r n hr0; have hr := hr0 _ _ (by first | with_reducible assumption | exact rfl) (by first | with_reducible assumption | exact rfl); clear hr0) | (with_reducible refine at_list ?_; refine wpList_neg rfl rfl rfl ?_; intro r hr0; have hr := hr0 _ (by first | with_reducible assumption | exact rfl); clear hr0) | (with_reducible refine at_list ?_; refine wpList_fop_g rfl rfl rfl rfl rfl ?_; intro r n hr0; have hr := hr0 _ _ (by first | with_reducible assumption | exact rfl) (by first | with_reducible assumption | exact rfl); clear hr0) | (with_reducible refine at_list ?_; refine wpList_wide_g rfl rfl Try.underlying26 Try.underlying54 rfl ?_; intro r n hr0; have hr := hr0 _ (by first | with_reducible assumption | exact rfl); clear hr0) | (with_reducible refine at_list ?_; refine wpList_wide rfl rfl rfl Try.underlying26 Try.underlying54 ?_; intro r n hr0; have hr := hr0 _ (by first | with_reducible assumption | exact rfl); clear hr0) | (go_at_call 36; refine ((HV.out _ (HS.out.later (by (repeat (first | (with_reducible exact Below.refl _ _) | (with_reducible assumption) | (with_reducible refine below_then ?_ (by assumption)) | (with_reducible refine Below.trans ?_ (by assumption)) | (with_reducible refine below_drewN ?_ _) | (with_reducible apply Below.drew) | (with_reducible refine below_alloc ?_ _) | refine Below.setCell ?_ (by first | (simp; done) | (simp; omega)) _))))) ).mono ?_; rintro e w' ⟨rfl, hb⟩; obtain ⟨hT, hk⟩ := bv_next hb (by (repeat (with_reducible first | assumption | apply Trk.alloc | apply Trk.setCell | apply Trk.drewN | apply Trk.drew | exact Trk.nil _))); simp only [SameOn, World.size_alloc, World.size_setCell, World.size_drew, size_drewN', and_true] at hk; have hsz := Below.size hb; (try simp only [World.size_alloc, World.size_setCell, World.size_drew, size_drewN'] at hsz)) | (go_at_call 47; refine ((HIC.out _) ).mono ?_; rintro e w' ⟨rfl, hb⟩; obtain ⟨hT, hk⟩ := bv_next hb (by (repeat (with_reducible first | assumption | apply Trk.alloc | apply Trk.setCell | apply Trk.drewN | apply Trk.drew | exact Trk.nil _))); simp only [SameOn, World.size_alloc, World.size_setCell, World.size_drew, size_drewN', and_true] at hk; have hsz := Below.size hb; (try simp only [World.size_alloc, World.size_setCell, World.size_drew, size_drewN'] at hsz)) | (go_at_call 38; refine (neighbours_any _ _ _ _ (by omega) (by omega) (by omega)).mono ?_; rintro e w' ⟨u, rfl, hb, hO⟩; obtain ⟨pu, cu, rfl⟩ := OI.shape hO; (try simp only [World.size_alloc, World.size_setCell, World.size_drew, World.drewN] at hO); obtain ⟨hT, hk⟩ := bv_next hb (by (repeat (with_reducible first | assumption | apply Trk.alloc | apply Trk.setCell | apply Trk.drewN | apply Trk.drew | exact Trk.nil _))); simp only [SameOn, World.size_alloc, World.size_setCell, World.size_drew, size_drewN', and_true] at hk; have hsz := Below.size hb; (try simp only [World.size_alloc, World.size_setCell, World.size_drew, size_drewN'] at hsz)))
    all_goals
      go_ret2
      exact ⟨_, by rw [HE.out.1]; rfl, by (repeat (first | (with_reducible exact Below.refl _ _) | (with_reducible assumption) | (with_reducible refine below_then ?_ (by assumption)) | (with_reducible refine Below.trans ?_ (by assumption)) | (with_reducible refine below_drewN ?_ _) | (with_reducible apply Below.drew) | (with_reducible refine below_alloc ?_ _) | refine Below.setCell ?_ (by first | (simp; done) | (simp; omega)) _)), by rw [HE.out.2]; exact OI.nil0 _ _⟩
  rw [h1] at HIC
  have HR : Hid (b = true ∧ Path P i E ∧ E.length ≤ 1000) := by
    rcases hR with ⟨_, _, h⟩ | ⟨h, _, h2⟩
    · rw [h0, h1] at h; cases h
    · exact ⟨h, h2⟩
  have HCI := Lib.hid h1
  clear hR
  have HN0 := Lib.hid (fun (x : Int) (hx : P.cell x = true) l w => neighbours_any P l x w (Pl.ok_len h0).1 (Pl.ok_len h0).2.1 (Pl.cell_iff hx))
  obtain ⟨hW, hH, hla, hlb, hlc, hld⟩ := Pl.ok_len h0
  obtain ⟨b1, o1, z1, b2, o2, z2, b3, o3, z3, b4, o4, z4, rfl, ⟨⟨hz1, hz1'⟩, ⟨hz2, hz2'⟩, ⟨hz3, hz3'⟩, hz4, hz4'⟩, HA, HB, HC, HD⟩ := Pl.view HS.out h0
  have HLB : Hid (P.b.length = P.a.length) := by show _ = _; omega
  have HLC : Hid (P.c.length = P.a.length) := by show _ = _; omega
  have HLD : Hid (P.d.length = P.a.length) := by show _ = _; omega
  have HLA : Hid ((P.a.length : Int) = P.W * P.H) := hla
  (try dsimp only)
  clear hla hlb hlc hld
  obtain ⟨hn1, hn2⟩ := Pl.ok_n h0
  have hla := HLA.out
  have hlE := HR.out.2.2
  have H0 := Lib.hid h0
  go_enter Try.func19, Try.ntmps19
  go_wp2_with (first | (with_reducible refine at_list ?_; refine wpList_fop rfl rfl rfl rfl rfl ?_; intro r n hr0; have hr := hr0 _ _ (by first | with_reducible assumption | exact rfl) (by first | with_reducible assumption | exact rfl); clear hr0) | (with_reducible refine at_list ?_; refine wpList_neg rfl rfl rfl ?_; intro r hr0; have hr := hr0 _ (by first | with_reducible assumption | exact rfl); clear hr0) | (with_reducible refine at_list ?_; refine wpList_fop_g rfl rfl rfl rfl rfl ?_; intro r n hr0; have hr := hr0 _ _ (by first | with_reducible assumption | exact rfl) (by first | with_reducible assumption | exact rfl); clear hr0) | (with_reducible refine at_list ?_; refine wpList_wide_g rfl rfl Try.underlying26 Try.underlying54 rfl ?_; intro r n hr0; have hr := hr0 _ (by first | with_reducible assumption | exact rfl); clear hr0) | (with_reducible refine at_list ?_; refine wpList_wide rfl rfl rfl Try.underlying26 Try.underlying54 ?_; intro r n hr0; have hr := hr0 _ (by first | with_reducible assumption | exact rfl); clear hr0) | (go_at_call 36; refine ((HV.out _ (HS.out.later (by (repeat (first | (with_reducible exact Below.refl _ _) | (with_reducible assumption) | (with_reducible refine below_then ?_ (by assumption)) | (with_reducible refine Below.trans ?_ (by assumption)) | (with_reducible refine below_drewN ?_ _) | (with_reducible apply Below.drew) | (with_reducible refine below_alloc ?_ _) | refine Below.setCell ?_ (by first | (simp; done) | (simp; omega)) _))))) ).mono ?_; rintro e w' ⟨rfl, hb⟩; obtain ⟨hT, hk⟩ := bv_next hb (by (repeat (with_reducible first | assumption | apply Trk.alloc | apply Trk.setCell | apply Trk.drewN | apply Trk.drew | exact Trk.nil _))); simp only [SameOn, World.size_alloc, World.size_setCell, World.size_drew, size_drewN', and_true] at hk; have hsz := Below.size hb; (try simp only [World.size_alloc, World.size_setCell, World.size_drew, size_drewN'] at hsz)) | (go_at_call 47; refine ((HIC.out _) ).mono ?_; rintro e w' ⟨rfl, hb⟩; obtain ⟨hT, hk⟩ := bv_next hb (by (repeat (with_reducible first | assumption | apply Trk.alloc | apply Trk.setCell | apply Trk.drewN | apply Trk.drew | exact Trk.nil _))); simp only [SameOn, World.size_alloc, World.size_setCell, World.size_drew, size_drewN', and_true] at hk; have hsz := Below.size hb; (try simp only [World.size_alloc, World.size_setCell, World.size_drew, size_drewN'] at hsz)) | (go_at_call 38; refine (neighbours_any _ _ _ _ (by omega) (by omega) (by omega)).mono ?_; rintro e w' ⟨u, rfl, hb, hO⟩; obtain ⟨pu, cu, rfl⟩ := OI.shape hO; (try simp only [World.size_alloc, World.size_setCell, World.size_drew, World.drewN] at hO); obtain ⟨hT, hk⟩ := bv_next hb (by (repeat (with_reducible first | assumption | apply Trk.alloc | apply Trk.setCell | apply Trk.drewN | apply Trk.drew | exact Trk.nil _))); simp only [SameOn, World.size_alloc, World.size_setCell, World.size_drew, size_drewN', and_true] at hk; have hsz := Below.size hb; (try simp only [World.size_alloc, World.size_setCell, World.size_drew, size_drewN'] at hsz)))
  refine wp_named ?_
  intro ws hws
  have hBs : Below w.heap.size w ws := by rw [hws]; (repeat (first | (with_reducible exact Below.refl _ _) | (with_reducible assumption) | (with_reducible refine below_then ?_ (by assumption)) | (with_reducible refine Below.trans ?_ (by assumption)) | (with_reducible refine below_drewN ?_ _) | (with_reducible apply Below.drew) | (with_reducible refine below_alloc ?_ _) | refine Below.setCell ?_ (by first | (simp; done) | (simp; omega)) _))
  have hzs : w.heap.size + 1 ≤ ws.heap.size := by rw [hws]; first | omega | (simp; done) | (simp; omega)
  have hat : PlAt P ⟨some ⟨b1, o1, none⟩, z1, some ⟨b2, o2, none⟩, z2, some ⟨b3, o3, none⟩, z3, some ⟨b4, o4, none⟩, z4⟩ ws w.heap.size 0 := by rw [hws]; exact (by unfold PlAt; refine ⟨?_, ?_, ?_, ?_, ?_, ?_⟩ <;> go_simp)
  have HO00 : Hid (OI (w.heap.size + 1) ws (.slice (some ⟨w'.heap.size, 0, none⟩) 1 1) [i]) := by rw [hws]; exact OI.lit _ _ 1 [i] rfl (by first | omega | (simp; omega)) (by omega)
  clear hws hb hk hT hsz
  go_loopw [1, 6, 7, 9] (fun t s _ _ wr => ∃ (x : Int) (c : Nat) (q : Option Addr) (A R : List Int), t = .int .i64 x ∧ s = .slice q A.length c ∧ Hid (P.cell x = true) ∧ Hid (E = A ++ R) ∧ Hid (Path P x (x :: R)) ∧ Hid (OI (w.heap.size + 1) wr (.slice q A.length c) A) ∧ Below w.heap.size w wr ∧ w.heap.size + 1 ≤ wr.heap.size ∧ Hid (PlAt P ⟨some ⟨b1, o1, none⟩, z1, some ⟨b2, o2, none⟩, z2, some ⟨b3, o3, none⟩, z3, some ⟨b4, o4, none⟩, z4⟩ wr w.heap.size 0)) (fun _ s _ _ _ => E.length - lenOf s)
  case atStart =>
    obtain ⟨R, hR⟩ := HR.out.2.1.head
    exact ⟨i, 1, some ⟨_, 0, none⟩, [i], R, rfl, rfl, HCI.out, by show _ = _; rw [hR]; rfl, by show Path P i (i :: R); rw [← hR]; exact HR.out.2.1, HO00.out, hBs, hzs, hat⟩
  case round =>
    clear hBs hzs hat HO00
    obtain ⟨x, c, q, A, R, rfl, rfl, HX, HE, HP, HO, hB, hzr, HAT⟩ := hrel
    rename World => wo
    obtain ⟨g0, g1, g2, g3, g4, g5⟩ := HAT.out
    simp only [Nat.zero_add] at g0 g1 g2 g3 g4 g5
    have hT : Trk wo [w.heap.size] := (Trk.nil wo).more (by omega)
    have HNk := Lib.hid (HN0.out x HX.out)
    have HBC : Hid (∀ j, P.cell (bestL P x ((nbl P.W P.H x).take j)) = true) := fun j => bestL_cell H0.out HX.out (fun k hk => nbl_cells k (List.mem_of_mem_take hk))
    have HBS := Lib.hid (fun j h => bestL_step P x (nbl P.W P.H x) (j := j) h)
    have HBE : Hid (best P x = bestL P x (nbl P.W P.H x)) := rfl
    have HB0 : Hid (bestL P x ((nbl P.W P.H x).take 0) = x) := rfl
    have HMC := Lib.hid (fun j h => nbl_at (W := P.W) (H := P.H) (i := x) (j := j) h)
    have hM4 := nbl_len P.W P.H x
    generalize nbl P.W P.H x = M at HNk HBC HBS HBE HB0 HMC hM4
    go_wp2_with (first | (with_reducible refine at_list ?_; refine wpList_fop rfl rfl rfl rfl rfl ?_; intro r n hr0; have hr := hr0 _ _ (by first | with_reducible assumption | exact rfl) (by first | with_reducible assumption | exact rfl); clear hr0) | (with_reducible refine at_list ?_; refine wpList_neg rfl rfl rfl ?_; intro r hr0; have hr := hr0 _ (by first | with_reducible assumption | exact rfl); clear hr0) | (with_reducible refine at_list ?_; refine wpList_fop_g rfl rfl rfl rfl rfl ?_; intro r n hr0; have hr := hr0 _ _ (by first | with_reducible assumption | exact rfl) (by first | with_reducible assumption | exact rfl); clear hr0) | (with_reducible refine at_list ?_; refine wpList_wide_g rfl rfl Try.underlying26 Try.underlying54 rfl ?_; intro r n hr0; have hr := hr0 _ (by first | with_reducible assumption | exact rfl); clear hr0) | (with_reducible refine at_list ?_; refine wpList_wide rfl rfl rfl Try.underlying26 Try.underlying54 ?_; intro r n hr0; have hr := hr0 _ (by first | with_reducible assumption | exact rfl); clear hr0) | (go_at_call 36; refine (implValidPlate_any _ _ _ (by assumption)).mono ?_; rintro e w' ⟨rfl, hb⟩; obtain ⟨hT, hk⟩ := bv_next hb (by (repeat (with_reducible first | assumption | apply Trk.alloc | apply Trk.setCell | apply Trk.drewN | apply Trk.drew | exact Trk.nil _))); simp only [SameOn, World.size_alloc, World.size_setCell, World.size_drew, size_drewN', and_true] at hk; have hsz := Below.size hb; (try simp only [World.size_alloc, World.size_setCell, World.size_drew, size_drewN'] at hsz)) | (go_at_call 47; refine (isCell_any _ _ _ _ (by assumption)).mono ?_; rintro e w' ⟨rfl, hb⟩; obtain ⟨hT, hk⟩ := bv_next hb (by (repeat (with_reducible first | assumption | apply Trk.alloc | apply Trk.setCell | apply Trk.drewN | apply Trk.drew | exact Trk.nil _))); simp only [SameOn, World.size_alloc, World.size_setCell, World.size_drew, size_drewN', and_true] at hk; have hsz := Below.size hb; (try simp only [World.size_alloc, World.size_setCell, World.size_drew, size_drewN'] at hsz)) | (go_at_call 38; refine ((HNk.out ⟨some ⟨b1, o1, none⟩, z1, some ⟨b2, o2, none⟩, z2, some ⟨b3, o3, none⟩, z3, some ⟨b4, o4, none⟩, z4⟩ _) ).mono ?_; rintro e w' ⟨u, rfl, hb, hO⟩; obtain ⟨pu, cu, rfl⟩ := OI.shape hO; (try simp only [World.size_alloc, World.size_setCell, World.size_drew, World.drewN] at hO); obtain ⟨hT, hk⟩ := bv_next hb (by (repeat (with_reducible first | assumption | apply Trk.alloc | apply Trk.setCell | apply Trk.drewN | apply Trk.drew | exact Trk.nil _))); simp only [SameOn, World.size_alloc, World.size_setCell, World.size_drew, size_drewN', and_true] at hk; have hsz := Below.size hb; (try simp only [World.size_alloc, World.size_setCell, World.size_drew, size_drewN'] at hsz)))
    obtain ⟨_, _, hq, hc1, hc2, HVv⟩ := IS_view hO.fs
    cases hq
    have HVm := Lib.hid HVv
    clear hO HVv
    refine wp_named ?_
    intro wn hwn
    have hBn : Below wo.heap.size wo wn := by rw [hwn]; (repeat (first | (with_reducible exact Below.refl _ _) | (with_reducible assumption) | (with_reducible refine below_then ?_ (by assumption)) | (with_reducible refine Below.trans ?_ (by assumption)) | (with_reducible refine below_drewN ?_ _) | (with_reducible apply Below.drew) | (with_reducible refine below_alloc ?_ _) | refine Below.setCell ?_ (by first | (simp; done) | (simp; omega)) _))
    have HVN : Hid (∀ j, j < M.length → ∃ b o, pu = some ⟨b, o, none⟩ ∧ wn.cell? ⟨b, o + j, none⟩ = some (.int .i64 (M.getD j 0))) := by show _; rw [hwn]; exact HVm.out
    clear hwn hb hk hsz HVm
    go_loopw [7, 9, 26] (fun s _ t wr => ∃ (j : Nat), j ≤ M.length ∧ t = .int .i64 j ∧ s = .int .i64 (bestL P x (M.take j)) ∧ Below wn.heap.size wn wr) (fun _ _ t _ => M.length - (intOf t).toNat)
    case atStart => exact ⟨0, by omega, rfl, by rw [HB0.out], Below.refl _ _⟩
    case round =>
      obtain ⟨j, hj, rfl, rfl, hbi⟩ := hrel
      have hbx : Below wo.heap.size wo wr := below_then hBn hbi
      have hszx : wo.heap.size ≤ wr.heap.size := hbx.size
      have hszn : w.heap.size ≠ wr.heap.size := by omega
      have hszm : wr.heap.size ≠ w.heap.size := by omega
      have hszl : w.heap.size < wr.heap.size := by omega
      obtain ⟨g0, g1, g2, g3, g4, g5⟩ := PlAt.later HAT.out hbx (by omega)
      simp only [Nat.zero_add] at g0 g1 g2 g3 g4 g5
      by_cases hjl : j < M.length
      · obtain ⟨mb, mo, rfl, hcell0⟩ := HVN.out j hjl
        have hcell := cell_later hbi hcell0
        have HST := Lib.hid (HBS.out j hjl)
        have hy := HMC.out j hjl
        have hbc := Pl.cell_iff (HBC.out j)
        generalize M.getD j 0 = y at hcell hcell0 HST hy
        generalize bestL P x (M.take j) = bb at HST hbc
        obtain ⟨ym, rfl⟩ := Int.eq_ofNat_of_zero_le hy.1
        obtain ⟨bm, rfl⟩ := Int.eq_ofNat_of_zero_le hbc.1
        have hya : ym < P.a.length := by omega
        have hba : bm < P.a.length := by omega
        have cy := cell_later (below_then hB hbx) (HA.out ym hya)
        have cb := cell_later (below_then hB hbx) (HA.out bm hba)
        have HXX : Hid (aE P (ym : Int) = cn .f32 (P.a.getD ym 0) ∧ aE P (bm : Int) = cn .f32 (P.a.getD bm 0)) := ⟨rfl, rfl⟩
        have HST2 : Hid (bestL P x (M.take (j + 1)) = if flt .f32 (cn .f32 (P.a.getD ym 0)) (cn .f32 (P.a.getD bm 0)) = true then (ym : Int) else bm) := by show _ = _; rw [HST.out, HXX.out.1, HXX.out.2]
        generalize P.a.getD ym 0 = u at cy HST2
        generalize P.a.getD bm 0 = v at cb HST2
        clear HST HXX hcell0 HVN HA HB HC HD HBS HBC HMC hy hbc HB0 HBE
        rcases f1 : flt .f32 (cn .f32 u) (cn .f32 v)
        all_goals
          rw [f1] at HST2
          go_wp2_with (first | (with_reducible refine at_list ?_; refine wpList_fop rfl rfl rfl rfl rfl ?_; intro r n hr0; have hr := hr0 _ _ (by first | with_reducible assumption | exact rfl) (by first | with_reducible assumption | exact rfl); clear hr0) | (with_reducible refine at_list ?_; refine wpList_neg rfl rfl rfl ?_; intro r hr0; have hr := hr0 _ (by first | with_reducible assumption | exact rfl); clear hr0) | (with_reducible refine at_list ?_; refine wpList_fop_g rfl rfl rfl rfl rfl ?_; intro r n hr0; have hr := hr0 _ _ (by first | with_reducible assumption | exact rfl) (by first | with_reducible assumption | exact rfl); clear hr0) | (with_reducible refine at_list ?_; refine wpList_wide_g rfl rfl Try.underlying26 Try.underlying54 rfl ?_; intro r n hr0; have hr := hr0 _ (by first | with_reducible assumption | exact rfl); clear hr0) | (with_reducible refine at_list ?_; refine wpList_wide rfl rfl rfl Try.underlying26 Try.underlying54 ?_; intro r n hr0; have hr := hr0 _ (by first | with_reducible assumption | exact rfl); clear hr0) | (go_at_call 36; refine (implValidPlate_any _ _ _ (by assumption)).mono ?_; rintro e w' ⟨rfl, hb⟩; obtain ⟨hT, hk⟩ := bv_next hb (by (repeat (with_reducible first | assumption | apply Trk.alloc | apply Trk.setCell | apply Trk.drewN | apply Trk.drew | exact Trk.nil _))); simp only [SameOn, World.size_alloc, World.size_setCell, World.size_drew, size_drewN', and_true] at hk; have hsz := Below.size hb; (try simp only [World.size_alloc, World.size_setCell, World.size_drew, size_drewN'] at hsz)) | (go_at_call 47; refine (isCell_any _ _ _ _ (by assumption)).mono ?_; rintro e w' ⟨rfl, hb⟩; obtain ⟨hT, hk⟩ := bv_next hb (by (repeat (with_reducible first | assumption | apply Trk.alloc | apply Trk.setCell | apply Trk.drewN | apply Trk.drew | exact Trk.nil _))); simp only [SameOn, World.size_alloc, World.size_setCell, World.size_drew, size_drewN', and_true] at hk; have hsz := Below.size hb; (try simp only [World.size_alloc, World.size_setCell, World.size_drew, size_drewN'] at hsz)) | (go_at_call 38; refine (neighbours_any _ _ _ _ (by omega) (by omega) (by omega)).mono ?_; rintro e w' ⟨u, rfl, hb, hO⟩; obtain ⟨pu, cu, rfl⟩ := OI.shape hO; (try simp only [World.size_alloc, World.size_setCell, World.size_drew, World.drewN] at hO); obtain ⟨hT, hk⟩ := bv_next hb (by (repeat (with_reducible first | assumption | apply Trk.alloc | apply Trk.setCell | apply Trk.drewN | apply Trk.drew | exact Trk.nil _))); simp only [SameOn, World.size_alloc, World.size_setCell, World.size_drew, size_drewN', and_true] at hk; have hsz := Below.size hb; (try simp only [World.size_alloc, World.size_setCell, World.size_drew, size_drewN'] at hsz)))
          (refine wp_some_lit (by kernel_rfl) (by kernel_rfl) ?_; (refine wpSome_one ?_; go_big_quiet_step (fail); refine wpQuiet_nil ?_); (refine wpSome_one ?_; go_big_quiet_step (fail); refine wpQuiet_nil ?_); (refine wpSome_one ?_; go_big_quiet_step (fail); refine wpQuiet_nil ?_); (refine wpSome_one ?_; go_big_quiet_step (fail); refine wpQuiet_nil ?_); (refine wpSome_one ?_; go_big_quiet_step (fail); refine wpQuiet_nil ?_); (refine wpSome_one ?_; go_big_quiet_step (fail); refine wpQuiet_nil ?_); (refine wpSome_one ?_; go_big_quiet_step (fail); refine wpQuiet_nil ?_); (refine wpSome_one ?_; go_big_quiet_step (fail); refine wpQuiet_nil ?_); (refine wpSome_one ?_; go_big_quiet_step (fail); refine wpQuiet_nil ?_); (refine wpSome_one ?_; go_big_quiet_step (fail); refine wpQuiet_nil ?_); (refine wpSome_one ?_; go_big_quiet_step (fail); refine wpQuiet_nil ?_); refine wpSome_nil ?_; intro w' hw'; obtain ⟨nq, rfl⟩ := hw')
          go_wp2_with (first | (with_reducible refine at_list ?_; refine wpList_fop rfl rfl rfl rfl rfl ?_; intro r n hr0; have hr := hr0 _ _ (by first | with_reducible assumption | exact rfl) (by first | with_reducible assumption | exact rfl); clear hr0) | (with_reducible refine at_list ?_; refine wpList_neg rfl rfl rfl ?_; intro r hr0; have hr := hr0 _ (by first | with_reducible assumption | exact rfl); clear hr0) | (with_reducible refine at_list ?_; refine wpList_fop_g rfl rfl rfl rfl rfl ?_; intro r n hr0; have hr := hr0 _ _ (by first | with_reducible assumption | exact rfl) (by first | with_reducible assumption | exact rfl); clear hr0) | (with_reducible refine at_list ?_; refine wpList_wide_g rfl rfl Try.underlying26 Try.underlying54 rfl ?_; intro r n hr0; have hr := hr0 _ (by first | with_reducible assumption | exact rfl); clear hr0) | (with_reducible refine at_list ?_; refine wpList_wide rfl rfl rfl Try.underlying26 Try.underlying54 ?_; intro r n hr0; have hr := hr0 _ (by first | with_reducible assumption | exact rfl); clear hr0) | (go_at_call 36; refine (implValidPlate_any _ _ _ (by assumption)).mono ?_; rintro e w' ⟨rfl, hb⟩; obtain ⟨hT, hk⟩ := bv_next hb (by (repeat (with_reducible first | assumption | apply Trk.alloc | apply Trk.setCell | apply Trk.drewN | apply Trk.drew | exact Trk.nil _))); simp only [SameOn, World.size_alloc, World.size_setCell, World.size_drew, size_drewN', and_true] at hk; have hsz := Below.size hb; (try simp only [World.size_alloc, World.size_setCell, World.size_drew, size_drewN'] at hsz)) | (go_at_call 47; refine (isCell_any _ _ _ _ (by assumption)).mono ?_; rintro e w' ⟨rfl, hb⟩; obtain ⟨hT, hk⟩ := bv_next hb (by (repeat (with_reducible first | assumption | apply Trk.alloc | apply Trk.setCell | apply Trk.drewN | apply Trk.drew | exact Trk.nil _))); simp only [SameOn, World.size_alloc, World.size_setCell, World.size_drew, size_drewN', and_true] at hk; have hsz := Below.size hb; (try simp only [World.size_alloc, World.size_setCell, World.size_drew, size_drewN'] at hsz)) | (go_at_call 38; refine (neighbours_any _ _ _ _ (by omega) (by omega) (by omega)).mono ?_; rintro e w' ⟨u, rfl, hb, hO⟩; obtain ⟨pu, cu, rfl⟩ := OI.shape hO; (try simp only [World.size_alloc, World.size_setCell, World.size_drew, World.drewN] at hO); obtain ⟨hT, hk⟩ := bv_next hb (by (repeat (with_reducible first | assumption | apply Trk.alloc | apply Trk.setCell | apply Trk.drewN | apply Trk.drew | exact Trk.nil _))); simp only [SameOn, World.size_alloc, World.size_setCell, World.size_drew, size_drewN', and_true] at hk; have hsz := Below.size hb; (try simp only [World.size_alloc, World.size_setCell, World.size_drew, size_drewN'] at hsz)))
          go_roundw
          case rel => exact ⟨j + 1, by omega, by go_num, by rw [HST2.out]; rfl, by (repeat (first | (with_reducible exact Below.refl _ _) | (with_reducible assumption) | (with_reducible refine below_then ?_ (by assumption)) | (with_reducible refine Below.trans ?_ (by assumption)) | (with_reducible refine below_drewN ?_ _) | (with_reducible apply Below.drew) | (with_reducible refine below_alloc ?_ _) | refine Below.setCell ?_ (by first | (simp; done) | (simp; omega)) _))⟩
          case measure => simp [intOf]; omega
      · have hje : j = M.length := by omega
        have HBB : Hid (bestL P x (M.take j) = best P x) := by show _ = _; rw [HBE.out, hje, List.take_length]
        have hbc := HBC.out j
        rw [HBB.out] at hbc ⊢
        clear HVN HBS HBC HMC HB0 HBE HBB
        rcases HP.out.next with ⟨e1, e2⟩ | ⟨e1, R', e2, e3⟩
        · have e4 : (best P x == x) = true := by rw [e1]; exact beq_self_eq_true x
          have HE2 : Hid (E = A) := by show _ = _; rw [HE.out, e2, List.append_nil]
          clear e1 e2
          go_wp2_with (first | (with_reducible refine at_list ?_; refine wpList_fop rfl rfl rfl rfl rfl ?_; intro r n hr0; have hr := hr0 _ _ (by first | with_reducible assumption | exact rfl) (by first | with_reducible assumption | exact rfl); clear hr0) | (with_reducible refine at_list ?_; refine wpList_neg rfl rfl rfl ?_; intro r hr0; have hr := hr0 _ (by first | with_reducible assumption | exact rfl); clear hr0) | (with_reducible refine at_list ?_; refine wpList_fop_g rfl rfl rfl rfl rfl ?_; intro r n hr0; have hr := hr0 _ _ (by first | with_reducible assumption | exact rfl) (by first | with_reducible assumption | exact rfl); clear hr0) | (with_reducible refine at_list ?_; refine wpList_wide_g rfl rfl Try.underlying26 Try.underlying54 rfl ?_; intro r n hr0; have hr := hr0 _ (by first | with_reducible assumption | exact rfl); clear hr0) | (with_reducible refine at_list ?_; refine wpList_wide rfl rfl rfl Try.underlying26 Try.underlying54 ?_; intro r n hr0; have hr := hr0 _ (by first | with_reducible assumption | exact rfl); clear hr0) | (go_at_call 36; refine (implValidPlate_any _ _ _ (by assumption)).mono ?_; rintro e w' ⟨rfl, hb⟩; obtain ⟨hT, hk⟩ := bv_next hb (by (repeat (with_reducible first | assumption | apply Trk.alloc | apply Trk.setCell | apply Trk.drewN | apply Trk.drew | exact Trk.nil _))); simp only [SameOn, World.size_alloc, World.size_setCell, World.size_drew, size_drewN', and_true] at hk; have hsz := Below.size hb; (try simp only [World.size_alloc, World.size_setCell, World.size_drew, size_drewN'] at hsz)) | (go_at_call 47; refine (isCell_any _ _ _ _ (by assumption)).mono ?_; rintro e w' ⟨rfl, hb⟩; obtain ⟨hT, hk⟩ := bv_next hb (by (repeat (with_reducible first | assumption | apply Trk.alloc | apply Trk.setCell | apply Trk.drewN | apply Trk.drew | exact Trk.nil _))); simp only [SameOn, World.size_alloc, World.size_setCell, World.size_drew, size_drewN', and_true] at hk; have hsz := Below.size hb; (try simp only [World.size_alloc, World.size_setCell, World.size_drew, size_drewN'] at hsz)) | (go_at_call 38; refine (neighbours_any _ _ _ _ (by omega) (by omega) (by omega)).mono ?_; rintro e w' ⟨u, rfl, hb, hO⟩; obtain ⟨pu, cu, rfl⟩ := OI.shape hO; (try simp only [World.size_alloc, World.size_setCell, World.size_drew, World.drewN] at hO); obtain ⟨hT, hk⟩ := bv_next hb (by (repeat (with_reducible first | assumption | apply Trk.alloc | apply Trk.setCell | apply Trk.drewN | apply Trk.drew | exact Trk.nil _))); simp only [SameOn, World.size_alloc, World.size_setCell, World.size_drew, size_drewN', and_true] at hk; have hsz := Below.size hb; (try simp only [World.size_alloc, World.size_setCell, World.size_drew, size_drewN'] at hsz)))
          go_ret2
          exact ⟨_, by rw [HR.out.1]; rfl, by (repeat (first | (with_reducible exact Below.refl _ _) | (with_reducible assumption) | (with_reducible refine below_then ?_ (by assumption)) | (with_reducible refine Below.trans ?_ (by assumption)) | (with_reducible refine below_drewN ?_ _) | (with_reducible apply Below.drew) | (with_reducible refine below_alloc ?_ _) | refine Below.setCell ?_ (by first | (simp; done) | (simp; omega)) _)), by rw [HE2.out]; exact (HO.out.later hbx).base (by omega)⟩
        · have e4 : (best P x == x) = false := beq_eq_false_iff_ne.2 e1
          have HE2 : Hid (E = (A ++ [best P x]) ++ R') := by show _ = _; rw [HE.out, e2]; simp
          have hAl : A.length < E.length := by rw [HE2.out]; first | (simp; done) | (simp; omega)
          have HE3 := Lib.hid e3
          have HBC2 := Lib.hid hbc
          clear e1 e2 e3 hbc
          generalize best P x = y at e4 HE2 HE3 HBC2
          go_wp2_with (first | (with_reducible refine at_list ?_; refine wpList_fop rfl rfl rfl rfl rfl ?_; intro r n hr0; have hr := hr0 _ _ (by first | with_reducible assumption | exact rfl) (by first | with_reducible assumption | exact rfl); clear hr0) | (with_reducible refine at_list ?_; refine wpList_neg rfl rfl rfl ?_; intro r hr0; have hr := hr0 _ (by first | with_reducible assumption | exact rfl); clear hr0) | (with_reducible refine at_list ?_; refine wpList_fop_g rfl rfl rfl rfl rfl ?_; intro r n hr0; have hr := hr0 _ _ (by first | with_reducible assumption | exact rfl) (by first | with_reducible assumption | exact rfl); clear hr0) | (with_reducible refine at_list ?_; refine wpList_wide_g rfl rfl Try.underlying26 Try.underlying54 rfl ?_; intro r n hr0; have hr := hr0 _ (by first | with_reducible assumption | exact rfl); clear hr0) | (with_reducible refine at_list ?_; refine wpList_wide rfl rfl rfl Try.underlying26 Try.underlying54 ?_; intro r n hr0; have hr := hr0 _ (by first | with_reducible assumption | exact rfl); clear hr0) | (at_builtin; refine stop_here ?_) | (go_at_call 36; refine (implValidPlate_any _ _ _ (by assumption)).mono ?_; rintro e w' ⟨rfl, hb⟩; obtain ⟨hT, hk⟩ := bv_next hb (by (repeat (with_reducible first | assumption | apply Trk.alloc | apply Trk.setCell | apply Trk.drewN | apply Trk.drew | exact Trk.nil _))); simp only [SameOn, World.size_alloc, World.size_setCell, World.size_drew, size_drewN', and_true] at hk; have hsz := Below.size hb; (try simp only [World.size_alloc, World.size_setCell, World.size_drew, size_drewN'] at hsz)) | (go_at_call 47; refine (isCell_any _ _ _ _ (by assumption)).mono ?_; rintro e w' ⟨rfl, hb⟩; obtain ⟨hT, hk⟩ := bv_next hb (by (repeat (with_reducible first | assumption | apply Trk.alloc | apply Trk.setCell | apply Trk.drewN | apply Trk.drew | exact Trk.nil _))); simp only [SameOn, World.size_alloc, World.size_setCell, World.size_drew, size_drewN', and_true] at hk; have hsz := Below.size hb; (try simp only [World.size_alloc, World.size_setCell, World.size_drew, size_drewN'] at hsz)) | (go_at_call 38; refine (neighbours_any _ _ _ _ (by omega) (by omega) (by omega)).mono ?_; rintro e w' ⟨u, rfl, hb, hO⟩; obtain ⟨pu, cu, rfl⟩ := OI.shape hO; (try simp only [World.size_alloc, World.size_setCell, World.size_drew, World.drewN] at hO); obtain ⟨hT, hk⟩ := bv_next hb (by (repeat (with_reducible first | assumption | apply Trk.alloc | apply Trk.setCell | apply Trk.drewN | apply Trk.drew | exact Trk.nil _))); simp only [SameOn, World.size_alloc, World.size_setCell, World.size_drew, size_drewN', and_true] at hk; have hsz := Below.size hb; (try simp only [World.size_alloc, World.size_setCell, World.size_drew, size_drewN'] at hsz)))
          unfold Stop
          apply wpList_appI (B := w.heap.size + 1) (xs := A) (v := .slice q A.length c)
          case hg => rfl
          case ho => rfl
          case hs => rfl
          case hx => rfl
          case hO => (first | exact (HO.out.later hbx).alloc _ | exact ((HO.out.later hbx).drewN _).alloc _)
          case hc => go_simp <;> exact rfl
          case hn => omega
          case hB => simp; omega
          intro q2 c2 w2 hO2 hB2
          have hw2 : w.heap.size + 1 ≤ w2.heap.size := by have := hB2.size; simp at this; omega
          have hB3 := Below.trans (B := w.heap.size) (a := w) (by (repeat (first | (with_reducible exact Below.refl _ _) | (with_reducible assumption) | (with_reducible refine below_then ?_ (by assumption)) | (with_reducible refine Below.trans ?_ (by assumption)) | (with_reducible refine below_drewN ?_ _) | (with_reducible apply Below.drew) | (with_reducible refine below_alloc ?_ _) | refine Below.setCell ?_ (by first | (simp; done) | (simp; omega)) _))) (hB2.mono (by omega))
          have hat2 := PlAt.later (P := P) (l := ⟨some ⟨b1, o1, none⟩, z1, some ⟨b2, o2, none⟩, z2, some ⟨b3, o3, none⟩, z3, some ⟨b4, o4, none⟩, z4⟩) (b := w.heap.size) (o := 0) (by unfold PlAt; refine ⟨?_, ?_, ?_, ?_, ?_, ?_⟩ <;> go_simp) hB2 (by omega)
          have HB3 := Lib.hid hB3
          have HAT2 := Lib.hid hat2
          have HO2 := Lib.hid hO2
          clear hat2 hB3 hB2 hO2
          go_wp2
          go_roundw
          case rel => exact ⟨y, c2, q2, A ++ [y], R', rfl, by simp, HBC2.out, HE2.out, HE3.out, by show OI _ _ _ _; have := HO2.out; simpa using this, HB3.out, hw2, HAT2.out⟩
          case measure => simp [lenOf]; omega
end Go.Proofs.Ytphamdlnnfionaa
set_option linter.unusedSimpArgs false
set_option linter.unusedVariables false
set_option linter.unusedSectionVars false
namespace Go.Proofs.Ytphamdlnnfionaa
open Go Go.RowKit
open Go.ChangeShapes Go.WideShapes Go.ChangeAt Go.RowKit Go.Joins
/-- Two slices lie apart. -/
def ApI (u v : Value) : Prop := u.ownBlock = none ∨ u.ownBlock ≠ v.ownBlock
theorem islOk_no {P : Pl} {v : Nat} (h : islOk P v = false) : islC P v = 0 ∧ islM P v = 0 := by
  unfold islC islM
  rw [h]
  exact ⟨rfl, rfl⟩
theorem islOk_yes {P : Pl} {v : Nat} (h : islOk P v = true) : islC P v = ((islOut P v P.a.length).2.1 : Int) ∧ islM P v = ((islOut P v P.a.length).2.2 : Int) := by
  unfold islC islM
  rw [h]
  exact ⟨rfl, rfl⟩
theorem apI_app {B : Nat} {w w' : World} {u i i' : Value} {xs : List Int} (h : OI B w u xs) (ha : ApI u i) (hg : w.grownBy w' i.ownBlock) (hn : i'.ownBlock = i.ownBlock ∨ i'.ownBlock = some w.heap.size) : OI B w' u xs ∧ ApI u i' := by
  refine ⟨h.kept hg ha, ?_⟩
  rcases hn with e | e
  · unfold ApI; rw [e]; exact ha
  · unfold ApI; rw [e]
    cases hu : u.ownBlock with
    | none => exact .inl rfl
    | some k => exact .inr (fun e2 => by have := (h.block k hu).2; simp at e2; omega)
theorem getD_in {l : List Int} {n : Nat} (h : n < l.length) : l.getD n 0 ∈ l := by
  rw [List.getD_eq_getElem?_getD, List.getElem?_eq_getElem h]
  exact List.getElem_mem h
/-- What an island's own slice and the map of cells are in a round. -/
def IslW (B mb : Nat) (wr : World) (q : Option Addr) (c : Nat) (S : List Bool) (L : List Int) : Prop := OI (mb + 1) wr (.slice q L.length c) L ∧ MB wr mb S ∧ mb < wr.heap.size ∧ B ≤ mb
set_option maxHeartbeats 8000000 in
theorem implIslandsOver_any (P : Pl) (l : Lay) (v : Nat) (w : World) (hs : P.fs w l) : Calls Try.prog 10 #[.agg #[.int .i64 P.W, .int .i64 P.H, .slice l.p1 P.a.length l.c1, .slice l.p2 P.b.length l.c2, .slice l.p3 P.c.length l.c3, .slice l.p4 P.d.length l.c4], .float .f32 v] w (BV w (.tuple #[.int .i64 (islC P v), .int .i64 (islM P v), .bool (islOk P v)])) := by
  have HS := Lib.hid hs
  clear hs
  have HV := Lib.hid (fun w h => implValidPlate_any P l w h)
  rcases h0 : P.ok
  · rw [h0] at HV
    have HO0 : Hid (islOk P v = false) := by show _ = _; unfold islOk; rw [h0]; rfl
    have HE := Lib.hid (islOk_no HO0.out)
    go_enter Try.func10, Try.ntmps10
    go_wp2_with (first | (with_reducible refine at_list ?_; refine wpList_fop rfl rfl rfl rfl rfl ?_; intro r n hr0; have hr := hr0 _ _ (by first | with_reducible assumption | exact rfl) (by first | with_reducible assumption | exact rfl); clear hr0) | (with_reducible refine at_list ?_; refine wpList_neg rfl rfl rfl ?_; intro r hr0; have hr := hr0 _ (by first | with_reducible assumption | exact rfl); clear hr0) | (with_reducible refine at_list ?_; refine wpList_fop_g rfl rfl rfl rfl rfl ?_; intro r n hr0; have hr := hr0 _ _ (by first | with_reducible assumption | exact rfl) (by first | with_reducible assumption | exact rfl); clear hr0) | (with_reducible refine at_list ?_; refine wpList_wide_g rfl rfl Try.underlying26 Try.underlying54 rfl ?_; intro r n hr0; have hr := hr0 _ (by first | with_reducible assumption | exact rfl); clear hr0) | (with_reducible refine at_list ?_; refine wpList_wide rfl rfl rfl Try.underlying26 Try.underlying54 ?_; intro r n hr0; have hr := hr0 _ (by first | with_reducible assumption | exact rfl); clear hr0) | (go_at_call 36; refine ((HV.out _ (HS.out.later (by (repeat (first | (with_reducible exact Below.refl _ _) | (with_reducible assumption) | (with_reducible refine below_then ?_ (by assumption)) | (with_reducible refine Below.trans ?_ (by assumption)) | (with_reducible refine below_drewN ?_ _) | (with_reducible apply Below.drew) | (with_reducible refine below_alloc ?_ _) | refine Below.setCell ?_ (by first | (simp; done) | (simp; omega)) _))))) ).mono ?_; rintro e w' ⟨rfl, hb⟩; obtain ⟨hT, hk⟩ := bv_next hb (by (repeat (with_reducible first | assumption | apply Trk.alloc | apply Trk.setCell | apply Trk.drewN | apply Trk.drew | exact Trk.nil _))); simp only [SameOn, World.size_alloc, World.size_setCell, World.size_drew, size_drewN', and_true] at hk; have hsz := Below.size hb; (try simp only [World.size_alloc, World.size_setCell, World.size_drew, size_drewN'] at hsz)) | (go_at_call 37; refine (IsFinite_any _ _).mono ?_; rintro e w' ⟨rfl, n, rfl⟩) | (go_at_call 38; refine (neighbours_any _ _ _ _ (by omega) (by omega) (by omega)).mono ?_; rintro e w' ⟨u, rfl, hb, hO⟩; obtain ⟨pu, cu, rfl⟩ := OI.shape hO; (try simp only [World.size_alloc, World.size_setCell, World.size_drew, World.drewN] at hO); obtain ⟨hT, hk⟩ := bv_next hb (by (repeat (with_reducible first | assumption | apply Trk.alloc | apply Trk.setCell | apply Trk.drewN | apply Trk.drew | exact Trk.nil _))); simp only [SameOn, World.size_alloc, World.size_setCell, World.size_drew, size_drewN', and_true] at hk; have hsz := Below.size hb; (try simp only [World.size_alloc, World.size_setCell, World.size_drew, size_drewN'] at hsz)))
    all_goals
      go_ret3
      exact ⟨by rw [HO0.out, HE.out.1, HE.out.2]; rfl, by (repeat (first | (with_reducible exact Below.refl _ _) | (with_reducible assumption) | (with_reducible refine below_then ?_ (by assumption)) | (with_reducible refine Below.trans ?_ (by assumption)) | (with_reducible refine below_drewN ?_ _) | (with_reducible apply Below.drew) | (with_reducible refine below_alloc ?_ _) | refine Below.setCell ?_ (by first | (simp; done) | (simp; omega)) _))⟩
  rw [h0] at HV
  rcases hf : fin .f32 (cn .f32 v)
  · have HO0 : Hid (islOk P v = false) := by show _ = _; unfold islOk; rw [h0, hf]; rfl
    have HE := Lib.hid (islOk_no HO0.out)
    go_enter Try.func10, Try.ntmps10
    go_wp2_with (first | (with_reducible refine at_list ?_; refine wpList_fop rfl rfl rfl rfl rfl ?_; intro r n hr0; have hr := hr0 _ _ (by first | with_reducible assumption | exact rfl) (by first | with_reducible assumption | exact rfl); clear hr0) | (with_reducible refine at_list ?_; refine wpList_neg rfl rfl rfl ?_; intro r hr0; have hr := hr0 _ (by first | with_reducible assumption | exact rfl); clear hr0) | (with_reducible refine at_list ?_; refine wpList_fop_g rfl rfl rfl rfl rfl ?_; intro r n hr0; have hr := hr0 _ _ (by first | with_reducible assumption | exact rfl) (by first | with_reducible assumption | exact rfl); clear hr0) | (with_reducible refine at_list ?_; refine wpList_wide_g rfl rfl Try.underlying26 Try.underlying54 rfl ?_; intro r n hr0; have hr := hr0 _ (by first | with_reducible assumption | exact rfl); clear hr0) | (with_reducible refine at_list ?_; refine wpList_wide rfl rfl rfl Try.underlying26 Try.underlying54 ?_; intro r n hr0; have hr := hr0 _ (by first | with_reducible assumption | exact rfl); clear hr0) | (go_at_call 36; refine ((HV.out _ (HS.out.later (by (repeat (first | (with_reducible exact Below.refl _ _) | (with_reducible assumption) | (with_reducible refine below_then ?_ (by assumption)) | (with_reducible refine Below.trans ?_ (by assumption)) | (with_reducible refine below_drewN ?_ _) | (with_reducible apply Below.drew) | (with_reducible refine below_alloc ?_ _) | refine Below.setCell ?_ (by first | (simp; done) | (simp; omega)) _))))) ).mono ?_; rintro e w' ⟨rfl, hb⟩; obtain ⟨hT, hk⟩ := bv_next hb (by (repeat (with_reducible first | assumption | apply Trk.alloc | apply Trk.setCell | apply Trk.drewN | apply Trk.drew | exact Trk.nil _))); simp only [SameOn, World.size_alloc, World.size_setCell, World.size_drew, size_drewN', and_true] at hk; have hsz := Below.size hb; (try simp only [World.size_alloc, World.size_setCell, World.size_drew, size_drewN'] at hsz)) | (go_at_call 37; refine (IsFinite_any _ _).mono ?_; rintro e w' ⟨rfl, n, rfl⟩) | (go_at_call 38; refine (neighbours_any _ _ _ _ (by omega) (by omega) (by omega)).mono ?_; rintro e w' ⟨u, rfl, hb, hO⟩; obtain ⟨pu, cu, rfl⟩ := OI.shape hO; (try simp only [World.size_alloc, World.size_setCell, World.size_drew, World.drewN] at hO); obtain ⟨hT, hk⟩ := bv_next hb (by (repeat (with_reducible first | assumption | apply Trk.alloc | apply Trk.setCell | apply Trk.drewN | apply Trk.drew | exact Trk.nil _))); simp only [SameOn, World.size_alloc, World.size_setCell, World.size_drew, size_drewN', and_true] at hk; have hsz := Below.size hb; (try simp only [World.size_alloc, World.size_setCell, World.size_drew, size_drewN'] at hsz)))
    all_goals
      go_ret3
      exact ⟨by rw [HO0.out, HE.out.1, HE.out.2]; rfl, by (repeat (first | (with_reducible exact Below.refl _ _) | (with_reducible assumption) | (with_reducible refine below_then ?_ (by assumption)) | (with_reducible refine Below.trans ?_ (by assumption)) | (with_reducible refine below_drewN ?_ _) | (with_reducible apply Below.drew) | (with_reducible refine below_alloc ?_ _) | refine Below.setCell ?_ (by first | (simp; done) | (simp; omega)) _))⟩
  have HO1 : Hid (islOk P v = true) := by show _ = _; unfold islOk; rw [h0, hf]; rfl
  have HE := Lib.hid (islOk_yes HO1.out)
  have HN0 := Lib.hid (fun (x : Int) (hx : P.cell x = true) l w => neighbours_any P l x w (Pl.ok_len h0).1 (Pl.ok_len h0).2.1 (Pl.cell_iff hx))
  obtain ⟨hW, hH, hla, hlb, hlc, hld⟩ := Pl.ok_len h0
  obtain ⟨b1, o1, z1, b2, o2, z2, b3, o3, z3, b4, o4, z4, rfl, ⟨⟨hz1, hz1'⟩, ⟨hz2, hz2'⟩, ⟨hz3, hz3'⟩, hz4, hz4'⟩, HA, HB, HC, HD⟩ := Pl.view HS.out h0
  have HLB : Hid (P.b.length = P.a.length) := by show _ = _; omega
  have HLC : Hid (P.c.length = P.a.length) := by show _ = _; omega
  have HLD : Hid (P.d.length = P.a.length) := by show _ = _; omega
  have HLA : Hid ((P.a.length : Int) = P.W * P.H) := hla
  (try dsimp only)
  clear hla hlb hlc hld
  obtain ⟨hn1, hn2⟩ := Pl.ok_n h0
  have hla := HLA.out
  have hlaN : P.a.length ≤ 144 := by omega
  have H0 := Lib.hid h0
  have hmm := @run_makeMap Try.prog
  go_enter Try.func10, Try.ntmps10
  go_wp2_with (first | (with_reducible refine at_list ?_; refine wpList_fop rfl rfl rfl rfl rfl ?_; intro r n hr0; have hr := hr0 _ _ (by first | with_reducible assumption | exact rfl) (by first | with_reducible assumption | exact rfl); clear hr0) | (with_reducible refine at_list ?_; refine wpList_neg rfl rfl rfl ?_; intro r hr0; have hr := hr0 _ (by first | with_reducible assumption | exact rfl); clear hr0) | (with_reducible refine at_list ?_; refine wpList_fop_g rfl rfl rfl rfl rfl ?_; intro r n hr0; have hr := hr0 _ _ (by first | with_reducible assumption | exact rfl) (by first | with_reducible assumption | exact rfl); clear hr0) | (with_reducible refine at_list ?_; refine wpList_wide_g rfl rfl Try.underlying26 Try.underlying54 rfl ?_; intro r n hr0; have hr := hr0 _ (by first | with_reducible assumption | exact rfl); clear hr0) | (with_reducible refine at_list ?_; refine wpList_wide rfl rfl rfl Try.underlying26 Try.underlying54 ?_; intro r n hr0; have hr := hr0 _ (by first | with_reducible assumption | exact rfl); clear hr0) | (go_at_call 36; refine ((HV.out _ (HS.out.later (by (repeat (first | (with_reducible exact Below.refl _ _) | (with_reducible assumption) | (with_reducible refine below_then ?_ (by assumption)) | (with_reducible refine Below.trans ?_ (by assumption)) | (with_reducible refine below_drewN ?_ _) | (with_reducible apply Below.drew) | (with_reducible refine below_alloc ?_ _) | refine Below.setCell ?_ (by first | (simp; done) | (simp; omega)) _))))) ).mono ?_; rintro e w' ⟨rfl, hb⟩; obtain ⟨hT, hk⟩ := bv_next hb (by (repeat (with_reducible first | assumption | apply Trk.alloc | apply Trk.setCell | apply Trk.drewN | apply Trk.drew | exact Trk.nil _))); simp only [SameOn, World.size_alloc, World.size_setCell, World.size_drew, size_drewN', and_true] at hk; have hsz := Below.size hb; (try simp only [World.size_alloc, World.size_setCell, World.size_drew, size_drewN'] at hsz)) | (go_at_call 37; refine (IsFinite_any _ _).mono ?_; rintro e w' ⟨rfl, n, rfl⟩) | (go_at_call 38; refine (neighbours_any _ _ _ _ (by omega) (by omega) (by omega)).mono ?_; rintro e w' ⟨u, rfl, hb, hO⟩; obtain ⟨pu, cu, rfl⟩ := OI.shape hO; (try simp only [World.size_alloc, World.size_setCell, World.size_drew, World.drewN] at hO); obtain ⟨hT, hk⟩ := bv_next hb (by (repeat (with_reducible first | assumption | apply Trk.alloc | apply Trk.setCell | apply Trk.drewN | apply Trk.drew | exact Trk.nil _))); simp only [SameOn, World.size_alloc, World.size_setCell, World.size_drew, size_drewN', and_true] at hk; have hsz := Below.size hb; (try simp only [World.size_alloc, World.size_setCell, World.size_drew, size_drewN'] at hsz)))
  refine wp_named ?_
  intro ws hws
  have hBs : Below w.heap.size w ws := by rw [hws]; (repeat (first | (with_reducible exact Below.refl _ _) | (with_reducible assumption) | (with_reducible refine below_then ?_ (by assumption)) | (with_reducible refine Below.trans ?_ (by assumption)) | (with_reducible refine below_drewN ?_ _) | (with_reducible apply Below.drew) | (with_reducible refine below_alloc ?_ _) | refine Below.setCell ?_ (by first | (simp; done) | (simp; omega)) _))
  have hat : PlAt P ⟨some ⟨b1, o1, none⟩, z1, some ⟨b2, o2, none⟩, z2, some ⟨b3, o3, none⟩, z3, some ⟨b4, o4, none⟩, z4⟩ ws w.heap.size 0 := by rw [hws]; exact (by unfold PlAt; refine ⟨?_, ?_, ?_, ?_, ?_, ?_⟩ <;> go_simp)
  obtain ⟨mb, hmb, hmbw, HMB⟩ : ∃ mb, mb = w'.heap.size ∧ w.heap.size < mb ∧ Hid (MB ws mb (islOut P v 0).1) := ⟨_, rfl, by omega, by rw [hws]; first | exact MB.made _ _ | exact (MB.made _ _).later (below_draws _) (by simp)⟩
  rw [← hmb]
  clear hws hb hk hT hsz hmb hmm
  go_loopw [7, 8, 10, 11, 12, 14, 29] (fun m g _ _ _ _ t wr => ∃ i : Nat, i ≤ P.a.length ∧ t = .int .i64 i ∧ m = .int .i64 ((islOut P v i).2.1 : Int) ∧ g = .int .i64 ((islOut P v i).2.2 : Int) ∧ Hid (MB wr mb (islOut P v i).1) ∧ Below w.heap.size w wr ∧ Hid (PlAt P ⟨some ⟨b1, o1, none⟩, z1, some ⟨b2, o2, none⟩, z2, some ⟨b3, o3, none⟩, z3, some ⟨b4, o4, none⟩, z4⟩ wr w.heap.size 0)) (fun _ _ _ _ _ _ t _ => P.a.length - (intOf t).toNat)
  case atStart => exact ⟨0, Nat.zero_le _, rfl, rfl, rfl, HMB.out, hBs, hat⟩
  case round =>
    clear hBs hat HMB
    obtain ⟨i, hi, rfl, rfl, rfl, HM, hB, HAT⟩ := hrel
    rename World => wo
    have hmlt := HM.out.lt
    obtain ⟨g0, g1, g2, g3, g4, g5⟩ := HAT.out
    simp only [Nat.zero_add] at g0 g1 g2 g3 g4 g5
    have HIN := Lib.hid (islOut_inv (P := P) (v := v) (N := P.a.length) (by omega) rfl (by omega) i hi)
    by_cases hlt : i < P.a.length
    · have hlt2 : (i : Int) < P.W * P.H := by omega
      have ca := cell_later hB (HA.out i hlt)
      have HSK0 : Hid ((islOut P v i).1.getD i false = true ∨ fge .f32 (cn .f32 (P.a.getD i 0)) (cn .f32 v) = false → islOut P v (i + 1) = islOut P v i) := fun h => islOut_skip h
      have HNW0 : Hid ((islOut P v i).1.getD i false = false → fge .f32 (cn .f32 (P.a.getD i 0)) (cn .f32 v) = true → islOut P v (i + 1) = ((islEnd P v ((islOut P v i).1.set i true, [(i : Int)])).1, (islOut P v i).2.1 + 1, max (islOut P v i).2.2 (islEnd P v ((islOut P v i).1.set i true, [(i : Int)])).2.length)) := fun h1 h2 => islOut_new h1 h2
      generalize islOut P v i = O at HM HSK0 HNW0 HIN
      obtain ⟨S, m, g⟩ := O
      (try dsimp only at HM)
      (try dsimp only at HSK0)
      (try dsimp only at HNW0)
      (try dsimp only at HIN)
      have hSl : S.length = P.a.length := HIN.out.1
      have hm2 := HIN.out.2.1
      have hg2 := HIN.out.2.2
      (try dsimp only at hm2)
      (try dsimp only at hg2)
      generalize P.a.getD i 0 = x at ca HSK0 HNW0
      rcases f0 : S.getD i false
      rotate_left
      · have HSK := Lib.hid (HSK0.out (.inl f0))
        clear HSK0 HNW0 HA HB HC HD HN0
        go_wp2_with (first | (with_reducible refine at_list ?_; refine wpList_fop rfl rfl rfl rfl rfl ?_; intro r n hr0; have hr := hr0 _ _ (by first | with_reducible assumption | exact rfl) (by first | with_reducible assumption | exact rfl); clear hr0) | (with_reducible refine at_list ?_; refine wpList_neg rfl rfl rfl ?_; intro r hr0; have hr := hr0 _ (by first | with_reducible assumption | exact rfl); clear hr0) | (with_reducible refine at_list ?_; refine wpList_fop_g rfl rfl rfl rfl rfl ?_; intro r n hr0; have hr := hr0 _ _ (by first | with_reducible assumption | exact rfl) (by first | with_reducible assumption | exact rfl); clear hr0) | (with_reducible refine at_list ?_; refine wpList_wide_g rfl rfl Try.underlying26 Try.underlying54 rfl ?_; intro r n hr0; have hr := hr0 _ (by first | with_reducible assumption | exact rfl); clear hr0) | (with_reducible refine at_list ?_; refine wpList_wide rfl rfl rfl Try.underlying26 Try.underlying54 ?_; intro r n hr0; have hr := hr0 _ (by first | with_reducible assumption | exact rfl); clear hr0) | (at_lookup; refine wpList_lookB rfl rfl rfl HM.out (k := i) (by omega) (by omega) rfl f0 ?_) | (go_at_call 36; refine (implValidPlate_any _ _ _ (by assumption)).mono ?_; rintro e w' ⟨rfl, hb⟩; obtain ⟨hT, hk⟩ := bv_next hb (by (repeat (with_reducible first | assumption | apply Trk.alloc | apply Trk.setCell | apply Trk.drewN | apply Trk.drew | exact Trk.nil _))); simp only [SameOn, World.size_alloc, World.size_setCell, World.size_drew, size_drewN', and_true] at hk; have hsz := Below.size hb; (try simp only [World.size_alloc, World.size_setCell, World.size_drew, size_drewN'] at hsz)) | (go_at_call 37; refine (IsFinite_any _ _).mono ?_; rintro e w' ⟨rfl, n, rfl⟩) | (go_at_call 38; refine (neighbours_any _ _ _ _ (by omega) (by omega) (by omega)).mono ?_; rintro e w' ⟨u, rfl, hb, hO⟩; obtain ⟨pu, cu, rfl⟩ := OI.shape hO; (try simp only [World.size_alloc, World.size_setCell, World.size_drew, World.drewN] at hO); obtain ⟨hT, hk⟩ := bv_next hb (by (repeat (with_reducible first | assumption | apply Trk.alloc | apply Trk.setCell | apply Trk.drewN | apply Trk.drew | exact Trk.nil _))); simp only [SameOn, World.size_alloc, World.size_setCell, World.size_drew, size_drewN', and_true] at hk; have hsz := Below.size hb; (try simp only [World.size_alloc, World.size_setCell, World.size_drew, size_drewN'] at hsz)))
        go_roundw
        case rel => exact ⟨i + 1, by omega, by go_num, by rw [HSK.out], by rw [HSK.out], by show MB _ _ _; rw [HSK.out]; exact HM.out, hB, HAT.out⟩
        case measure => simp [intOf]; omega
      rcases f1 : fge .f32 (cn .f32 x) (cn .f32 v)
      · have HSK := Lib.hid (HSK0.out (.inr f1))
        clear HSK0 HNW0 HA HB HC HD HN0
        go_wp2_with (first | (with_reducible refine at_list ?_; refine wpList_fop rfl rfl rfl rfl rfl ?_; intro r n hr0; have hr := hr0 _ _ (by first | with_reducible assumption | exact rfl) (by first | with_reducible assumption | exact rfl); clear hr0) | (with_reducible refine at_list ?_; refine wpList_neg rfl rfl rfl ?_; intro r hr0; have hr := hr0 _ (by first | with_reducible assumption | exact rfl); clear hr0) | (with_reducible refine at_list ?_; refine wpList_fop_g rfl rfl rfl rfl rfl ?_; intro r n hr0; have hr := hr0 _ _ (by first | with_reducible assumption | exact rfl) (by first | with_reducible assumption | exact rfl); clear hr0) | (with_reducible refine at_list ?_; refine wpList_wide_g rfl rfl Try.underlying26 Try.underlying54 rfl ?_; intro r n hr0; have hr := hr0 _ (by first | with_reducible assumption | exact rfl); clear hr0) | (with_reducible refine at_list ?_; refine wpList_wide rfl rfl rfl Try.underlying26 Try.underlying54 ?_; intro r n hr0; have hr := hr0 _ (by first | with_reducible assumption | exact rfl); clear hr0) | (at_lookup; refine wpList_lookB rfl rfl rfl HM.out (k := i) (by omega) (by omega) rfl f0 ?_) | (go_at_call 36; refine (implValidPlate_any _ _ _ (by assumption)).mono ?_; rintro e w' ⟨rfl, hb⟩; obtain ⟨hT, hk⟩ := bv_next hb (by (repeat (with_reducible first | assumption | apply Trk.alloc | apply Trk.setCell | apply Trk.drewN | apply Trk.drew | exact Trk.nil _))); simp only [SameOn, World.size_alloc, World.size_setCell, World.size_drew, size_drewN', and_true] at hk; have hsz := Below.size hb; (try simp only [World.size_alloc, World.size_setCell, World.size_drew, size_drewN'] at hsz)) | (go_at_call 37; refine (IsFinite_any _ _).mono ?_; rintro e w' ⟨rfl, n, rfl⟩) | (go_at_call 38; refine (neighbours_any _ _ _ _ (by omega) (by omega) (by omega)).mono ?_; rintro e w' ⟨u, rfl, hb, hO⟩; obtain ⟨pu, cu, rfl⟩ := OI.shape hO; (try simp only [World.size_alloc, World.size_setCell, World.size_drew, World.drewN] at hO); obtain ⟨hT, hk⟩ := bv_next hb (by (repeat (with_reducible first | assumption | apply Trk.alloc | apply Trk.setCell | apply Trk.drewN | apply Trk.drew | exact Trk.nil _))); simp only [SameOn, World.size_alloc, World.size_setCell, World.size_drew, size_drewN', and_true] at hk; have hsz := Below.size hb; (try simp only [World.size_alloc, World.size_setCell, World.size_drew, size_drewN'] at hsz)))
        go_roundw
        case rel => exact ⟨i + 1, by omega, by go_num, by rw [HSK.out], by rw [HSK.out], by show MB _ _ _; rw [HSK.out]; exact HM.out, hB, HAT.out⟩
        case measure => simp [intOf]; omega
      have HNW := Lib.hid (HNW0.out f0 f1)
      have HI0 := Lib.hid (islInv_start (N := P.a.length) hSl hlt f0)
      have HIT0 := Lib.hid (fun n => islInv_it (P := P) (v := v) (N := P.a.length) (by omega) (by omega) HI0.out n)
      clear HSK0 HNW0
      go_wp2_with (first | (with_reducible refine at_list ?_; refine wpList_fop rfl rfl rfl rfl rfl ?_; intro r n hr0; have hr := hr0 _ _ (by first | with_reducible assumption | exact rfl) (by first | with_reducible assumption | exact rfl); clear hr0) | (with_reducible refine at_list ?_; refine wpList_neg rfl rfl rfl ?_; intro r hr0; have hr := hr0 _ (by first | with_reducible assumption | exact rfl); clear hr0) | (with_reducible refine at_list ?_; refine wpList_fop_g rfl rfl rfl rfl rfl ?_; intro r n hr0; have hr := hr0 _ _ (by first | with_reducible assumption | exact rfl) (by first | with_reducible assumption | exact rfl); clear hr0) | (with_reducible refine at_list ?_; refine wpList_wide_g rfl rfl Try.underlying26 Try.underlying54 rfl ?_; intro r n hr0; have hr := hr0 _ (by first | with_reducible assumption | exact rfl); clear hr0) | (with_reducible refine at_list ?_; refine wpList_wide rfl rfl rfl Try.underlying26 Try.underlying54 ?_; intro r n hr0; have hr := hr0 _ (by first | with_reducible assumption | exact rfl); clear hr0) | (at_lookup; refine wpList_lookB rfl rfl rfl HM.out (k := i) (by omega) (by omega) rfl f0 ?_) | (at_mapUpdate; refine wpList_setB rfl rfl rfl (HM.out.later ((Below.refl _ _).alloc (Nat.le_refl _) _) hmlt) (k := i) (by omega) (by omega) f0 rfl rfl ?_; intro w2 hM2 hg2 hz2; have HM2 := Lib.hid hM2; have HG2 := Lib.hid hg2; simp only [World.size_alloc] at hz2; clear hM2 hg2) | (go_at_call 36; refine (implValidPlate_any _ _ _ (by assumption)).mono ?_; rintro e w' ⟨rfl, hb⟩; obtain ⟨hT, hk⟩ := bv_next hb (by (repeat (with_reducible first | assumption | apply Trk.alloc | apply Trk.setCell | apply Trk.drewN | apply Trk.drew | exact Trk.nil _))); simp only [SameOn, World.size_alloc, World.size_setCell, World.size_drew, size_drewN', and_true] at hk; have hsz := Below.size hb; (try simp only [World.size_alloc, World.size_setCell, World.size_drew, size_drewN'] at hsz)) | (go_at_call 37; refine (IsFinite_any _ _).mono ?_; rintro e w' ⟨rfl, n, rfl⟩) | (go_at_call 38; refine (neighbours_any _ _ _ _ (by omega) (by omega) (by omega)).mono ?_; rintro e w' ⟨u, rfl, hb, hO⟩; obtain ⟨pu, cu, rfl⟩ := OI.shape hO; (try simp only [World.size_alloc, World.size_setCell, World.size_drew, World.drewN] at hO); obtain ⟨hT, hk⟩ := bv_next hb (by (repeat (with_reducible first | assumption | apply Trk.alloc | apply Trk.setCell | apply Trk.drewN | apply Trk.drew | exact Trk.nil _))); simp only [SameOn, World.size_alloc, World.size_setCell, World.size_drew, size_drewN', and_true] at hk; have hsz := Below.size hb; (try simp only [World.size_alloc, World.size_setCell, World.size_drew, size_drewN'] at hsz)))
      have hB2 : Below w.heap.size w w2 := (hB.alloc (by omega) _).trans (below_of_grown HG2.out (by omega) (by simp; omega))
      have HW2 : Hid (IslW w.heap.size mb w2 (some ⟨wo.heap.size, 0, none⟩) 1 (S.set i true) [(i : Int)]) := ⟨(OI.litn _ (mb + 1) _ 1 [(i : Int)] rfl (by omega) (by omega) rfl).turned HG2.out (by omega), HM2.out, by omega, by omega⟩
      have HAT2 : Hid (PlAt P ⟨some ⟨b1, o1, none⟩, z1, some ⟨b2, o2, none⟩, z2, some ⟨b3, o3, none⟩, z3, some ⟨b4, o4, none⟩, z4⟩ w2 w.heap.size 0) := (PlAt.later (HAT.out) ((Below.refl _ _).alloc (Nat.le_refl _) _) (by omega)).later (below_of_grown (B := mb) HG2.out (Nat.le_refl _) (by simp; omega)) hmbw
      clear HM2 HG2 g0 g1 g2 g3 g4 g5
      go_loopw [11, 12, 14] (fun s t _ wr => ∃ (n c : Nat) (q : Option Addr) (S2 : List Bool) (L : List Int), s = .slice q L.length c ∧ t = .int .i64 n ∧ n ≤ P.a.length ∧ Hid (islIt P v (S.set i true, [(i : Int)]) n = (S2, L)) ∧ Hid (IslW w.heap.size mb wr q c S2 L) ∧ Below w.heap.size w wr ∧ Hid (PlAt P ⟨some ⟨b1, o1, none⟩, z1, some ⟨b2, o2, none⟩, z2, some ⟨b3, o3, none⟩, z3, some ⟨b4, o4, none⟩, z4⟩ wr w.heap.size 0)) (fun _ t _ _ => P.a.length - (intOf t).toNat)
      case atStart => exact ⟨0, 1, some ⟨wo.heap.size, 0, none⟩, S.set i true, [(i : Int)], rfl, rfl, by omega, rfl, HW2.out, hB2, HAT2.out⟩
      case round =>
        clear HW2 hB2 HAT2
        obtain ⟨n, c, q, S2, L, rfl, rfl, hn, HIT, HW, hB2, HAT2⟩ := hrel
        rename World => wp
        have HV2 : Hid (islInv P.a.length (S2, L)) := by show islInv _ _; rw [← HIT.out]; exact HIT0.out n
        have hLl := islInv_len HV2.out
        have hSl2 := HV2.out.1
        (try dsimp only at hLl)
        (try dsimp only at hSl2)
        obtain ⟨g0, g1, g2, g3, g4, g5⟩ := HAT2.out
        simp only [Nat.zero_add] at g0 g1 g2 g3 g4 g5
        by_cases hnl : n < L.length
        · have hmem := HV2.out.2.2 _ (getD_in hnl)
          (try dsimp only at hmem)
          have HST := Lib.hid (islIt_step (P := P) (v := v) (s := (S.set i true, [(i : Int)])) (n := n) (by rw [HIT.out]; exact hnl))
          rw [HIT.out] at HST
          (try dsimp only at HST)
          rw [← islFold_nbl] at HST
          obtain ⟨g, cg, hq1, _, _, _, _, hcells⟩ := (OI.view HW.out.1).resolve_left (by rintro ⟨h, h2⟩; rw [h2] at hnl; simp at hnl)
          have hcell := (hcells n hnl).1
          simp only [Value.slice.injEq, true_and] at hq1
          obtain ⟨rfl, rfl⟩ := hq1
          have HCELL : P.cell (L.getD n 0) = true := by unfold Pl.cell; rw [inB_true]; omega
          have HNk := Lib.hid (HN0.out _ HCELL)
          generalize L.getD n 0 = y0 at hcell HST HNk hmem HCELL
          have HMC := Lib.hid (fun j h => nbl_at (W := P.W) (H := P.H) (i := y0) (j := j) h)
          have hM4 := nbl_len P.W P.H y0
          have HFS := Lib.hid (fun (s : List Bool × List Int) j h => islFold_step (P := P) (v := v) (s := s) (nbl P.W P.H y0) (j := j) h)
          have HFI := Lib.hid (fun j => islInv_fold (P := P) (v := v) (N := P.a.length) ((nbl P.W P.H y0).take j) (S2, L) HV2.out (fun k hk => by have := Pl.cell_iff (nbl_cells (P := P) k (List.mem_of_mem_take hk)); omega))
          generalize nbl P.W P.H y0 = M at HST HNk HMC hM4 HFS HFI
          clear hcells HN0
          have hT : Trk wp [w.heap.size, g] := ((Trk.nil wp).more (World.block_lt_of_cell? _ _ hcell)).more (by have := HW.out.2.2; omega)
          go_wp2_with (first | (with_reducible refine at_list ?_; refine wpList_fop rfl rfl rfl rfl rfl ?_; intro r n hr0; have hr := hr0 _ _ (by first | with_reducible assumption | exact rfl) (by first | with_reducible assumption | exact rfl); clear hr0) | (with_reducible refine at_list ?_; refine wpList_neg rfl rfl rfl ?_; intro r hr0; have hr := hr0 _ (by first | with_reducible assumption | exact rfl); clear hr0) | (with_reducible refine at_list ?_; refine wpList_fop_g rfl rfl rfl rfl rfl ?_; intro r n hr0; have hr := hr0 _ _ (by first | with_reducible assumption | exact rfl) (by first | with_reducible assumption | exact rfl); clear hr0) | (with_reducible refine at_list ?_; refine wpList_wide_g rfl rfl Try.underlying26 Try.underlying54 rfl ?_; intro r n hr0; have hr := hr0 _ (by first | with_reducible assumption | exact rfl); clear hr0) | (with_reducible refine at_list ?_; refine wpList_wide rfl rfl rfl Try.underlying26 Try.underlying54 ?_; intro r n hr0; have hr := hr0 _ (by first | with_reducible assumption | exact rfl); clear hr0) | (go_at_call 36; refine (implValidPlate_any _ _ _ (by assumption)).mono ?_; rintro e w' ⟨rfl, hb⟩; obtain ⟨hT, hk⟩ := bv_next hb (by (repeat (with_reducible first | assumption | apply Trk.alloc | apply Trk.setCell | apply Trk.drewN | apply Trk.drew | exact Trk.nil _))); simp only [SameOn, World.size_alloc, World.size_setCell, World.size_drew, size_drewN', and_true] at hk; have hsz := Below.size hb; (try simp only [World.size_alloc, World.size_setCell, World.size_drew, size_drewN'] at hsz)) | (go_at_call 37; refine (IsFinite_any _ _).mono ?_; rintro e w' ⟨rfl, n, rfl⟩) | (go_at_call 38; refine (neighbours_any _ _ _ _ (by omega) (by omega) (by omega)).mono ?_; rintro e w' ⟨u, rfl, hb, hO⟩; obtain ⟨pu, cu, rfl⟩ := OI.shape hO; (try simp only [World.size_alloc, World.size_setCell, World.size_drew, World.drewN] at hO); obtain ⟨hT, hk⟩ := bv_next hb (by (repeat (with_reducible first | assumption | apply Trk.alloc | apply Trk.setCell | apply Trk.drewN | apply Trk.drew | exact Trk.nil _))); simp only [SameOn, World.size_alloc, World.size_setCell, World.size_drew, size_drewN', and_true] at hk; have hsz := Below.size hb; (try simp only [World.size_alloc, World.size_setCell, World.size_drew, size_drewN'] at hsz)))
          (apply wp_region_plan; ((apply wpC_val; (case hw => exact rfl); (case h1 => (intro w' hb hk0; obtain ⟨hT, hk⟩ := bv_next hb (by (repeat (with_reducible first | assumption | apply Trk.alloc | apply Trk.setCell | apply Trk.drewN | apply Trk.drew | exact Trk.nil _))); simp only [SameOn, World.size_alloc, World.size_setCell, World.size_drew, size_drewN', and_true] at hk; have hsz := Below.size hb; (try simp only [World.size_alloc, World.size_setCell, World.size_drew, size_drewN'] at hsz); go_simp <;> exact rfl))); apply wpC_norm; (case ha => (simp only [Act.put, List.setIfInBounds_toArray, List.set_cons_zero, List.set_cons_succ]; exact rfl))); ((apply wpC_det; (case hw => exact rfl); (case hs => (intro cs b h; cases h)); (case h1 => (intro w'; go_simp <;> exact rfl))); apply wpC_norm; (case ha => (simp only [Act.put, List.setIfInBounds_toArray, List.set_cons_zero, List.set_cons_succ]; exact rfl))); ((apply wpC_det; (case hw => exact rfl); (case hs => (intro cs b h; cases h)); (case h1 => (intro w'; go_simp <;> exact rfl))); apply wpC_norm; (case ha => (simp only [Act.put, List.setIfInBounds_toArray, List.set_cons_zero, List.set_cons_succ]; exact rfl))); ((apply wpC_det; (case hw => exact rfl); (case hs => (intro cs b h; cases h)); (case h1 => (intro w'; go_simp <;> exact rfl))); apply wpC_norm; (case ha => (simp only [Act.put, List.setIfInBounds_toArray, List.set_cons_zero, List.set_cons_succ]; exact rfl))); ((apply wpC_val; (case hw => exact rfl); (case h1 => (intro w' hb hk0; obtain ⟨hT, hk⟩ := bv_next hb (by (repeat (with_reducible first | assumption | apply Trk.alloc | apply Trk.setCell | apply Trk.drewN | apply Trk.drew | exact Trk.nil _))); simp only [SameOn, World.size_alloc, World.size_setCell, World.size_drew, size_drewN', and_true] at hk; have hsz := Below.size hb; (try simp only [World.size_alloc, World.size_setCell, World.size_drew, size_drewN'] at hsz); go_simp <;> exact rfl))); apply wpC_norm; (case ha => (simp only [Act.put, List.setIfInBounds_toArray, List.set_cons_zero, List.set_cons_succ]; exact rfl))); ((apply wpC_callI; (case hw => exact rfl); (case h1 => (intro w'; go_simp; exact ⟨rfl, rfl⟩)); (case hc => (intro w' hb hk0; obtain ⟨hT, hk⟩ := bv_next hb (by (repeat (with_reducible first | assumption | apply Trk.alloc | apply Trk.setCell | apply Trk.drewN | apply Trk.drew | exact Trk.nil _))); simp only [SameOn, World.size_alloc, World.size_setCell, World.size_drew, size_drewN', and_true] at hk; have hsz := Below.size hb; (try simp only [World.size_alloc, World.size_setCell, World.size_drew, size_drewN'] at hsz); exact ((HNk.out ⟨some ⟨b1, o1, none⟩, z1, some ⟨b2, o2, none⟩, z2, some ⟨b3, o3, none⟩, z3, some ⟨b4, o4, none⟩, z4⟩ _) ))); intro pu cu); apply wpC_norm; (case ha => (simp only [Act.put, List.setIfInBounds_toArray, List.set_cons_zero, List.set_cons_succ]; exact rfl))); ((apply wpC_det; (case hw => exact rfl); (case hs => (intro cs b h; cases h)); (case h1 => (intro w'; go_simp <;> exact rfl))); apply wpC_norm; (case ha => (simp only [Act.put, List.setIfInBounds_toArray, List.set_cons_zero, List.set_cons_succ]; exact rfl))); ((apply wpC_det; (case hw => exact rfl); (case hs => (intro cs b h; cases h)); (case h1 => (intro w'; go_simp <;> exact rfl))); apply wpC_norm; (case ha => (simp only [Act.put, List.setIfInBounds_toArray, List.set_cons_zero, List.set_cons_succ]; exact rfl))); refine wpC_nil ?_; intro w' hb hkk; obtain ⟨hT, hk⟩ := bv_next hb (by (repeat (with_reducible first | assumption | apply Trk.alloc | apply Trk.setCell | apply Trk.drewN | apply Trk.drew | exact Trk.nil _))); simp only [SameOn, World.size_alloc, World.size_setCell, World.size_drew, size_drewN', and_true] at hk; have hsz := Below.size hb; (try simp only [World.size_alloc, World.size_setCell, World.size_drew, size_drewN'] at hsz))
          rotate_left
          all_goals (try (first | kernel_rfl | rfl))
          have hgl : g < wp.heap.size := World.block_lt_of_cell? _ _ hcell
          have HN1 : Hid (OI wp.heap.size w' (.slice pu M.length cu) M ∧ ApI (.slice pu M.length cu) (.slice (some ⟨g, 0, none⟩) L.length c)) := ⟨hkk.1, by
            unfold ApI
            cases hu : (Value.slice pu M.length cu).ownBlock with
            | none => exact .inl rfl
            | some k => exact .inr (fun e => by have := (OI.block (show OI wp.heap.size w' (.slice pu M.length cu) M from hkk.1) k hu).1; simp [Value.ownBlock] at e; omega)⟩
          have hB3 : Below w.heap.size w w' := below_then hB2 hb
          have HW3 : Hid (IslW w.heap.size mb w' (some ⟨g, 0, none⟩) c S2 L) := ⟨HW.out.1.later hb, HW.out.2.1.later hb HW.out.2.2.1, by have := HW.out.2.2.1; omega, by omega⟩
          have HAT3 : Hid (PlAt P ⟨some ⟨b1, o1, none⟩, z1, some ⟨b2, o2, none⟩, z2, some ⟨b3, o3, none⟩, z3, some ⟨b4, o4, none⟩, z4⟩ w' w.heap.size 0) := PlAt.later HAT2.out hb (by omega)
          have hmpw := HW.out.2.2.1
          clear hkk hb hT hk hcell HW HAT2 hB2 g0 g1 g2 g3 g4 g5 HM hB HAT
          go_wp2_with (first | (with_reducible refine at_list ?_; refine wpList_fop rfl rfl rfl rfl rfl ?_; intro r n hr0; have hr := hr0 _ _ (by first | with_reducible assumption | exact rfl) (by first | with_reducible assumption | exact rfl); clear hr0) | (with_reducible refine at_list ?_; refine wpList_neg rfl rfl rfl ?_; intro r hr0; have hr := hr0 _ (by first | with_reducible assumption | exact rfl); clear hr0) | (with_reducible refine at_list ?_; refine wpList_fop_g rfl rfl rfl rfl rfl ?_; intro r n hr0; have hr := hr0 _ _ (by first | with_reducible assumption | exact rfl) (by first | with_reducible assumption | exact rfl); clear hr0) | (with_reducible refine at_list ?_; refine wpList_wide_g rfl rfl Try.underlying26 Try.underlying54 rfl ?_; intro r n hr0; have hr := hr0 _ (by first | with_reducible assumption | exact rfl); clear hr0) | (with_reducible refine at_list ?_; refine wpList_wide rfl rfl rfl Try.underlying26 Try.underlying54 ?_; intro r n hr0; have hr := hr0 _ (by first | with_reducible assumption | exact rfl); clear hr0) | (go_at_call 36; refine (implValidPlate_any _ _ _ (by assumption)).mono ?_; rintro e w' ⟨rfl, hb⟩; obtain ⟨hT, hk⟩ := bv_next hb (by (repeat (with_reducible first | assumption | apply Trk.alloc | apply Trk.setCell | apply Trk.drewN | apply Trk.drew | exact Trk.nil _))); simp only [SameOn, World.size_alloc, World.size_setCell, World.size_drew, size_drewN', and_true] at hk; have hsz := Below.size hb; (try simp only [World.size_alloc, World.size_setCell, World.size_drew, size_drewN'] at hsz)) | (go_at_call 37; refine (IsFinite_any _ _).mono ?_; rintro e w' ⟨rfl, n, rfl⟩) | (go_at_call 38; refine (neighbours_any _ _ _ _ (by omega) (by omega) (by omega)).mono ?_; rintro e w' ⟨u, rfl, hb, hO⟩; obtain ⟨pu, cu, rfl⟩ := OI.shape hO; (try simp only [World.size_alloc, World.size_setCell, World.size_drew, World.drewN] at hO); obtain ⟨hT, hk⟩ := bv_next hb (by (repeat (with_reducible first | assumption | apply Trk.alloc | apply Trk.setCell | apply Trk.drewN | apply Trk.drew | exact Trk.nil _))); simp only [SameOn, World.size_alloc, World.size_setCell, World.size_drew, size_drewN', and_true] at hk; have hsz := Below.size hb; (try simp only [World.size_alloc, World.size_setCell, World.size_drew, size_drewN'] at hsz)))
          go_loopw [11, 14, 62] (fun s _ t wr => ∃ (j c : Nat) (q : Option Addr) (S3 : List Bool) (L3 : List Int), t = .int .i64 j ∧ j ≤ M.length ∧ s = .slice q L3.length c ∧ Hid (islFold P v (S2, L) (M.take j) = (S3, L3)) ∧ Hid (OI wp.heap.size wr (.slice pu M.length cu) M ∧ ApI (.slice pu M.length cu) (.slice q L3.length c)) ∧ Hid (IslW w.heap.size mb wr q c S3 L3) ∧ Below w.heap.size w wr ∧ Hid (PlAt P ⟨some ⟨b1, o1, none⟩, z1, some ⟨b2, o2, none⟩, z2, some ⟨b3, o3, none⟩, z3, some ⟨b4, o4, none⟩, z4⟩ wr w.heap.size 0)) (fun _ _ t _ => M.length - (intOf t).toNat)
          case atStart => exact ⟨0, c, some ⟨g, 0, none⟩, S2, L, rfl, by omega, rfl, rfl, HN1.out, HW3.out, hB3, HAT3.out⟩
          case round =>
            clear HN1 HW3 hB3 HAT3 hsz hgl
            obtain ⟨j, c, q, S3, L3, rfl, hj, rfl, HF, HN1, HW, hB, HAT⟩ := hrel
            rename World => wi
            have HV3 : Hid (islInv P.a.length (S3, L3)) := by show islInv _ _; rw [← HF.out]; exact HFI.out j
            have hLl3 := islInv_len HV3.out
            have hSl3 := HV3.out.1
            (try dsimp only at hLl3)
            (try dsimp only at hSl3)
            have hmwi := HW.out.2.2.1
            obtain ⟨g0, g1, g2, g3, g4, g5⟩ := HAT.out
            simp only [Nat.zero_add] at g0 g1 g2 g3 g4 g5
            by_cases hjl : j < M.length
            · obtain ⟨_, _, hq, hc1, hc2, HVv⟩ := IS_view HN1.out.1.fs
              cases hq
              obtain ⟨nb, no, rfl, hcell⟩ := HVv j hjl
              have hnb := World.block_lt_of_cell? _ _ hcell
              have hy := HMC.out j hjl
              have HST3 := Lib.hid (HFS.out (S2, L) j hjl)
              rw [HF.out] at HST3
              generalize M.getD j 0 = y at hcell HST3 hy
              obtain ⟨ym, rfl⟩ := Int.eq_ofNat_of_zero_le hy.1
              have hya : ym < P.a.length := by omega
              have ca2 := cell_later hB (HA.out ym hya)
              have HHI : Hid (hiB P v (ym : Int) = fge .f32 (cn .f32 (P.a.getD ym 0)) (cn .f32 v)) := rfl
              generalize P.a.getD ym 0 = x3 at ca2 HHI
              have HSEEN := Lib.hid (fun h => islNb_seen (P := P) (v := v) (s := (S3, L3)) (k := (ym : Int)) h)
              have HLOW := Lib.hid (fun h => islNb_low (P := P) (v := v) (s := (S3, L3)) (k := (ym : Int)) h)
              have HYES := Lib.hid (fun h1 h2 h3 => islNb_yes (P := P) (v := v) (s := (S3, L3)) (k := (ym : Int)) h1 h2 h3)
              clear HVv hc1 hc2 HA HB HC HD HFS HFI HMC HIT0 HNW HIN
              rcases f2 : S3.getD ym false
              rotate_left
              · have HST := Lib.hid (HST3.out.trans (HSEEN.out f2))
                clear HST3 HSEEN HLOW HYES HHI
                go_wp2_with (first | (with_reducible refine at_list ?_; refine wpList_fop rfl rfl rfl rfl rfl ?_; intro r n hr0; have hr := hr0 _ _ (by first | with_reducible assumption | exact rfl) (by first | with_reducible assumption | exact rfl); clear hr0) | (with_reducible refine at_list ?_; refine wpList_neg rfl rfl rfl ?_; intro r hr0; have hr := hr0 _ (by first | with_reducible assumption | exact rfl); clear hr0) | (with_reducible refine at_list ?_; refine wpList_fop_g rfl rfl rfl rfl rfl ?_; intro r n hr0; have hr := hr0 _ _ (by first | with_reducible assumption | exact rfl) (by first | with_reducible assumption | exact rfl); clear hr0) | (with_reducible refine at_list ?_; refine wpList_wide_g rfl rfl Try.underlying26 Try.underlying54 rfl ?_; intro r n hr0; have hr := hr0 _ (by first | with_reducible assumption | exact rfl); clear hr0) | (with_reducible refine at_list ?_; refine wpList_wide rfl rfl rfl Try.underlying26 Try.underlying54 ?_; intro r n hr0; have hr := hr0 _ (by first | with_reducible assumption | exact rfl); clear hr0) | (at_lookup; refine wpList_lookB rfl rfl rfl HW.out.2.1 (k := ym) (by omega) (by omega) rfl f2 ?_) | (go_at_call 36; refine (implValidPlate_any _ _ _ (by assumption)).mono ?_; rintro e w' ⟨rfl, hb⟩; obtain ⟨hT, hk⟩ := bv_next hb (by (repeat (with_reducible first | assumption | apply Trk.alloc | apply Trk.setCell | apply Trk.drewN | apply Trk.drew | exact Trk.nil _))); simp only [SameOn, World.size_alloc, World.size_setCell, World.size_drew, size_drewN', and_true] at hk; have hsz := Below.size hb; (try simp only [World.size_alloc, World.size_setCell, World.size_drew, size_drewN'] at hsz)) | (go_at_call 37; refine (IsFinite_any _ _).mono ?_; rintro e w' ⟨rfl, n, rfl⟩) | (go_at_call 38; refine (neighbours_any _ _ _ _ (by omega) (by omega) (by omega)).mono ?_; rintro e w' ⟨u, rfl, hb, hO⟩; obtain ⟨pu, cu, rfl⟩ := OI.shape hO; (try simp only [World.size_alloc, World.size_setCell, World.size_drew, World.drewN] at hO); obtain ⟨hT, hk⟩ := bv_next hb (by (repeat (with_reducible first | assumption | apply Trk.alloc | apply Trk.setCell | apply Trk.drewN | apply Trk.drew | exact Trk.nil _))); simp only [SameOn, World.size_alloc, World.size_setCell, World.size_drew, size_drewN', and_true] at hk; have hsz := Below.size hb; (try simp only [World.size_alloc, World.size_setCell, World.size_drew, size_drewN'] at hsz)))
                go_roundw
                case rel => exact ⟨j + 1, c, q, S3, L3, by go_num, by omega, rfl, HST.out, HN1.out, HW.out, hB, HAT.out⟩
                case measure => simp [intOf]; omega
              rcases f3 : fge .f32 (cn .f32 x3) (cn .f32 v)
              · have HST := Lib.hid (HST3.out.trans (HLOW.out (HHI.out.trans f3)))
                clear HST3 HSEEN HLOW HYES HHI
                go_wp2_with (first | (with_reducible refine at_list ?_; refine wpList_fop rfl rfl rfl rfl rfl ?_; intro r n hr0; have hr := hr0 _ _ (by first | with_reducible assumption | exact rfl) (by first | with_reducible assumption | exact rfl); clear hr0) | (with_reducible refine at_list ?_; refine wpList_neg rfl rfl rfl ?_; intro r hr0; have hr := hr0 _ (by first | with_reducible assumption | exact rfl); clear hr0) | (with_reducible refine at_list ?_; refine wpList_fop_g rfl rfl rfl rfl rfl ?_; intro r n hr0; have hr := hr0 _ _ (by first | with_reducible assumption | exact rfl) (by first | with_reducible assumption | exact rfl); clear hr0) | (with_reducible refine at_list ?_; refine wpList_wide_g rfl rfl Try.underlying26 Try.underlying54 rfl ?_; intro r n hr0; have hr := hr0 _ (by first | with_reducible assumption | exact rfl); clear hr0) | (with_reducible refine at_list ?_; refine wpList_wide rfl rfl rfl Try.underlying26 Try.underlying54 ?_; intro r n hr0; have hr := hr0 _ (by first | with_reducible assumption | exact rfl); clear hr0) | (at_lookup; refine wpList_lookB rfl rfl rfl HW.out.2.1 (k := ym) (by omega) (by omega) rfl f2 ?_) | (go_at_call 36; refine (implValidPlate_any _ _ _ (by assumption)).mono ?_; rintro e w' ⟨rfl, hb⟩; obtain ⟨hT, hk⟩ := bv_next hb (by (repeat (with_reducible first | assumption | apply Trk.alloc | apply Trk.setCell | apply Trk.drewN | apply Trk.drew | exact Trk.nil _))); simp only [SameOn, World.size_alloc, World.size_setCell, World.size_drew, size_drewN', and_true] at hk; have hsz := Below.size hb; (try simp only [World.size_alloc, World.size_setCell, World.size_drew, size_drewN'] at hsz)) | (go_at_call 37; refine (IsFinite_any _ _).mono ?_; rintro e w' ⟨rfl, n, rfl⟩) | (go_at_call 38; refine (neighbours_any _ _ _ _ (by omega) (by omega) (by omega)).mono ?_; rintro e w' ⟨u, rfl, hb, hO⟩; obtain ⟨pu, cu, rfl⟩ := OI.shape hO; (try simp only [World.size_alloc, World.size_setCell, World.size_drew, World.drewN] at hO); obtain ⟨hT, hk⟩ := bv_next hb (by (repeat (with_reducible first | assumption | apply Trk.alloc | apply Trk.setCell | apply Trk.drewN | apply Trk.drew | exact Trk.nil _))); simp only [SameOn, World.size_alloc, World.size_setCell, World.size_drew, size_drewN', and_true] at hk; have hsz := Below.size hb; (try simp only [World.size_alloc, World.size_setCell, World.size_drew, size_drewN'] at hsz)))
                go_roundw
                case rel => exact ⟨j + 1, c, q, S3, L3, by go_num, by omega, rfl, HST.out, HN1.out, HW.out, hB, HAT.out⟩
                case measure => simp [intOf]; omega
              have HST := Lib.hid (HST3.out.trans (HYES.out (by omega) f2 (HHI.out.trans f3)))
              clear HST3 HSEEN HLOW HYES HHI
              go_wp2_with (first | (with_reducible refine at_list ?_; refine wpList_fop rfl rfl rfl rfl rfl ?_; intro r n hr0; have hr := hr0 _ _ (by first | with_reducible assumption | exact rfl) (by first | with_reducible assumption | exact rfl); clear hr0) | (with_reducible refine at_list ?_; refine wpList_neg rfl rfl rfl ?_; intro r hr0; have hr := hr0 _ (by first | with_reducible assumption | exact rfl); clear hr0) | (with_reducible refine at_list ?_; refine wpList_fop_g rfl rfl rfl rfl rfl ?_; intro r n hr0; have hr := hr0 _ _ (by first | with_reducible assumption | exact rfl) (by first | with_reducible assumption | exact rfl); clear hr0) | (with_reducible refine at_list ?_; refine wpList_wide_g rfl rfl Try.underlying26 Try.underlying54 rfl ?_; intro r n hr0; have hr := hr0 _ (by first | with_reducible assumption | exact rfl); clear hr0) | (with_reducible refine at_list ?_; refine wpList_wide rfl rfl rfl Try.underlying26 Try.underlying54 ?_; intro r n hr0; have hr := hr0 _ (by first | with_reducible assumption | exact rfl); clear hr0) | (at_lookup; refine wpList_lookB rfl rfl rfl HW.out.2.1 (k := ym) (by omega) (by omega) rfl f2 ?_) | (at_mapUpdate; refine wpList_setB rfl rfl rfl HW.out.2.1 (k := ym) (by omega) (by omega) f2 rfl rfl ?_; intro w3 hM3 hg3 hz3; have HM3 := Lib.hid hM3; have HG3 := Lib.hid hg3; clear hM3 hg3) | (at_builtin; refine stop_here ?_) | (go_at_call 36; refine (implValidPlate_any _ _ _ (by assumption)).mono ?_; rintro e w' ⟨rfl, hb⟩; obtain ⟨hT, hk⟩ := bv_next hb (by (repeat (with_reducible first | assumption | apply Trk.alloc | apply Trk.setCell | apply Trk.drewN | apply Trk.drew | exact Trk.nil _))); simp only [SameOn, World.size_alloc, World.size_setCell, World.size_drew, size_drewN', and_true] at hk; have hsz := Below.size hb; (try simp only [World.size_alloc, World.size_setCell, World.size_drew, size_drewN'] at hsz)) | (go_at_call 37; refine (IsFinite_any _ _).mono ?_; rintro e w' ⟨rfl, n, rfl⟩) | (go_at_call 38; refine (neighbours_any _ _ _ _ (by omega) (by omega) (by omega)).mono ?_; rintro e w' ⟨u, rfl, hb, hO⟩; obtain ⟨pu, cu, rfl⟩ := OI.shape hO; (try simp only [World.size_alloc, World.size_setCell, World.size_drew, World.drewN] at hO); obtain ⟨hT, hk⟩ := bv_next hb (by (repeat (with_reducible first | assumption | apply Trk.alloc | apply Trk.setCell | apply Trk.drewN | apply Trk.drew | exact Trk.nil _))); simp only [SameOn, World.size_alloc, World.size_setCell, World.size_drew, size_drewN', and_true] at hk; have hsz := Below.size hb; (try simp only [World.size_alloc, World.size_setCell, World.size_drew, size_drewN'] at hsz)))
              unfold Stop
              have HO3 : Hid (OI (mb + 1) w3 (.slice q L3.length c) L3) := HW.out.1.turned HG3.out (by omega)
              have HN3 : Hid (OI wp.heap.size w3 (.slice (some ⟨nb, no, none⟩) M.length cu) M) := HN1.out.1.turned HG3.out (by omega)
              have hB3 : Below w.heap.size w w3 := hB.trans (below_of_grown HG3.out (by omega) (by omega))
              have HAT3 : Hid (PlAt P ⟨some ⟨b1, o1, none⟩, z1, some ⟨b2, o2, none⟩, z2, some ⟨b3, o3, none⟩, z3, some ⟨b4, o4, none⟩, z4⟩ w3 w.heap.size 0) := HAT.out.later (below_of_grown (B := mb) HG3.out (Nat.le_refl _) (by omega)) hmbw
              clear HG3
              apply wpList_appJ (B := mb + 1) (xs := L3) (v := .slice q L3.length c)
              case hg => rfl
              case ho => rfl
              case hs => rfl
              case hx => rfl
              case hO => exact HO3.out.alloc _
              case hc => go_simp <;> exact rfl
              case hn => omega
              case hB => simp; omega
              intro q4 c4 w4 hO4 hB4 hg4 hn4
              obtain ⟨k1, k2⟩ := apI_app (HN3.out.alloc _) HN1.out.2 hg4 hn4
              have HK := Lib.hid k1
              have HAP := Lib.hid k2
              have hw4 : mb < w4.heap.size := by have := hB4.size; simp at this; omega
              have hB5 : Below w.heap.size w w4 := (hB3.alloc (by omega) _).trans (hB4.mono (by omega))
              have HM4 : Hid (MB w4 mb (S3.set ym true)) := (HM3.out.later ((Below.refl _ _).alloc (Nat.le_refl _) _) HM3.out.lt).later hB4 (by omega)
              have HAT4 : Hid (PlAt P ⟨some ⟨b1, o1, none⟩, z1, some ⟨b2, o2, none⟩, z2, some ⟨b3, o3, none⟩, z3, some ⟨b4, o4, none⟩, z4⟩ w4 w.heap.size 0) := (HAT3.out.later (Below.alloc (Below.refl w.heap.size.succ _) (by omega) _) (by omega)).later hB4 (by omega)
              have HO4 := Lib.hid hO4
              clear k1 k2 hO4 hB4 hg4 hn4 HN1 HW HAT HO3 HN3 HM3 HAT3 hB3 hB
              go_wp2
              go_roundw
              case rel => exact ⟨j + 1, c4, q4, S3.set ym true, L3 ++ [(ym : Int)], by go_num, by omega, by simp, HST.out, ⟨HK.out, by simpa using HAP.out⟩, ⟨by have := HO4.out; simpa using this, HM4.out, hw4, by omega⟩, hB5, HAT4.out⟩
              case measure => simp [intOf]; omega
            · have hje : j = M.length := by omega
              have HFE : Hid (islIt P v (S.set i true, [(i : Int)]) (n + 1) = (S3, L3)) := by show _ = _; rw [HST.out, ← HF.out, hje, List.take_length]
              clear HA HB HC HD HFS HFI HMC HIT0 HNW HIN
              go_wp2_with (first | (with_reducible refine at_list ?_; refine wpList_fop rfl rfl rfl rfl rfl ?_; intro r n hr0; have hr := hr0 _ _ (by first | with_reducible assumption | exact rfl) (by first | with_reducible assumption | exact rfl); clear hr0) | (with_reducible refine at_list ?_; refine wpList_neg rfl rfl rfl ?_; intro r hr0; have hr := hr0 _ (by first | with_reducible assumption | exact rfl); clear hr0) | (with_reducible refine at_list ?_; refine wpList_fop_g rfl rfl rfl rfl rfl ?_; intro r n hr0; have hr := hr0 _ _ (by first | with_reducible assumption | exact rfl) (by first | with_reducible assumption | exact rfl); clear hr0) | (with_reducible refine at_list ?_; refine wpList_wide_g rfl rfl Try.underlying26 Try.underlying54 rfl ?_; intro r n hr0; have hr := hr0 _ (by first | with_reducible assumption | exact rfl); clear hr0) | (with_reducible refine at_list ?_; refine wpList_wide rfl rfl rfl Try.underlying26 Try.underlying54 ?_; intro r n hr0; have hr := hr0 _ (by first | with_reducible assumption | exact rfl); clear hr0) | (go_at_call 36; refine (implValidPlate_any _ _ _ (by assumption)).mono ?_; rintro e w' ⟨rfl, hb⟩; obtain ⟨hT, hk⟩ := bv_next hb (by (repeat (with_reducible first | assumption | apply Trk.alloc | apply Trk.setCell | apply Trk.drewN | apply Trk.drew | exact Trk.nil _))); simp only [SameOn, World.size_alloc, World.size_setCell, World.size_drew, size_drewN', and_true] at hk; have hsz := Below.size hb; (try simp only [World.size_alloc, World.size_setCell, World.size_drew, size_drewN'] at hsz)) | (go_at_call 37; refine (IsFinite_any _ _).mono ?_; rintro e w' ⟨rfl, n, rfl⟩) | (go_at_call 38; refine (neighbours_any _ _ _ _ (by omega) (by omega) (by omega)).mono ?_; rintro e w' ⟨u, rfl, hb, hO⟩; obtain ⟨pu, cu, rfl⟩ := OI.shape hO; (try simp only [World.size_alloc, World.size_setCell, World.size_drew, World.drewN] at hO); obtain ⟨hT, hk⟩ := bv_next hb (by (repeat (with_reducible first | assumption | apply Trk.alloc | apply Trk.setCell | apply Trk.drewN | apply Trk.drew | exact Trk.nil _))); simp only [SameOn, World.size_alloc, World.size_setCell, World.size_drew, size_drewN', and_true] at hk; have hsz := Below.size hb; (try simp only [World.size_alloc, World.size_setCell, World.size_drew, size_drewN'] at hsz)))
              go_roundw
              case rel => exact ⟨n + 1, c, q, S3, L3, rfl, by go_num, by omega, HFE.out, HW.out, hB, HAT.out⟩
              case measure => simp [intOf]; omega
        · have HEN := Lib.hid (islIt_end (P := P) (v := v) (s := (S.set i true, [(i : Int)])) hn (by rw [HIT.out]; show L.length ≤ n; omega))
          rw [HIT.out] at HEN
          have HFE : Hid (islOut P v (i + 1) = (S2, m + 1, max g L.length)) := by show _ = _; rw [HNW.out, ← HEN.out]
          clear HA HB HC HD HIT0 HNW HIN HEN HM
          go_wp2_with (first | (with_reducible refine at_list ?_; refine wpList_fop rfl rfl rfl rfl rfl ?_; intro r n hr0; have hr := hr0 _ _ (by first | with_reducible assumption | exact rfl) (by first | with_reducible assumption | exact rfl); clear hr0) | (with_reducible refine at_list ?_; refine wpList_neg rfl rfl rfl ?_; intro r hr0; have hr := hr0 _ (by first | with_reducible assumption | exact rfl); clear hr0) | (with_reducible refine at_list ?_; refine wpList_fop_g rfl rfl rfl rfl rfl ?_; intro r n hr0; have hr := hr0 _ _ (by first | with_reducible assumption | exact rfl) (by first | with_reducible assumption | exact rfl); clear hr0) | (with_reducible refine at_list ?_; refine wpList_wide_g rfl rfl Try.underlying26 Try.underlying54 rfl ?_; intro r n hr0; have hr := hr0 _ (by first | with_reducible assumption | exact rfl); clear hr0) | (with_reducible refine at_list ?_; refine wpList_wide rfl rfl rfl Try.underlying26 Try.underlying54 ?_; intro r n hr0; have hr := hr0 _ (by first | with_reducible assumption | exact rfl); clear hr0) | (go_at_call 36; refine (implValidPlate_any _ _ _ (by assumption)).mono ?_; rintro e w' ⟨rfl, hb⟩; obtain ⟨hT, hk⟩ := bv_next hb (by (repeat (with_reducible first | assumption | apply Trk.alloc | apply Trk.setCell | apply Trk.drewN | apply Trk.drew | exact Trk.nil _))); simp only [SameOn, World.size_alloc, World.size_setCell, World.size_drew, size_drewN', and_true] at hk; have hsz := Below.size hb; (try simp only [World.size_alloc, World.size_setCell, World.size_drew, size_drewN'] at hsz)) | (go_at_call 37; refine (IsFinite_any _ _).mono ?_; rintro e w' ⟨rfl, n, rfl⟩) | (go_at_call 38; refine (neighbours_any _ _ _ _ (by omega) (by omega) (by omega)).mono ?_; rintro e w' ⟨u, rfl, hb, hO⟩; obtain ⟨pu, cu, rfl⟩ := OI.shape hO; (try simp only [World.size_alloc, World.size_setCell, World.size_drew, World.drewN] at hO); obtain ⟨hT, hk⟩ := bv_next hb (by (repeat (with_reducible first | assumption | apply Trk.alloc | apply Trk.setCell | apply Trk.drewN | apply Trk.drew | exact Trk.nil _))); simp only [SameOn, World.size_alloc, World.size_setCell, World.size_drew, size_drewN', and_true] at hk; have hsz := Below.size hb; (try simp only [World.size_alloc, World.size_setCell, World.size_drew, size_drewN'] at hsz)))
          go_roundw
          case rel => exact ⟨i + 1, by omega, by go_num, by rw [HFE.out]; go_num, by rw [HFE.out]; go_num, by show MB _ _ _; rw [HFE.out]; exact HW.out.2.1, hB2, HAT2.out⟩
          case measure => simp [intOf]; omega
    · have hie : i = P.a.length := by omega
      have hlt2 : ¬ (i : Int) < P.W * P.H := by omega
      subst hie
      clear HA HB HC HD HN0
      go_wp2_with (first | (with_reducible refine at_list ?_; refine wpList_fop rfl rfl rfl rfl rfl ?_; intro r n hr0; have hr := hr0 _ _ (by first | with_reducible assumption | exact rfl) (by first | with_reducible assumption | exact rfl); clear hr0) | (with_reducible refine at_list ?_; refine wpList_neg rfl rfl rfl ?_; intro r hr0; have hr := hr0 _ (by first | with_reducible assumption | exact rfl); clear hr0) | (with_reducible refine at_list ?_; refine wpList_fop_g rfl rfl rfl rfl rfl ?_; intro r n hr0; have hr := hr0 _ _ (by first | with_reducible assumption | exact rfl) (by first | with_reducible assumption | exact rfl); clear hr0) | (with_reducible refine at_list ?_; refine wpList_wide_g rfl rfl Try.underlying26 Try.underlying54 rfl ?_; intro r n hr0; have hr := hr0 _ (by first | with_reducible assumption | exact rfl); clear hr0) | (with_reducible refine at_list ?_; refine wpList_wide rfl rfl rfl Try.underlying26 Try.underlying54 ?_; intro r n hr0; have hr := hr0 _ (by first | with_reducible assumption | exact rfl); clear hr0) | (go_at_call 36; refine (implValidPlate_any _ _ _ (by assumption)).mono ?_; rintro e w' ⟨rfl, hb⟩; obtain ⟨hT, hk⟩ := bv_next hb (by (repeat (with_reducible first | assumption | apply Trk.alloc | apply Trk.setCell | apply Trk.drewN | apply Trk.drew | exact Trk.nil _))); simp only [SameOn, World.size_alloc, World.size_setCell, World.size_drew, size_drewN', and_true] at hk; have hsz := Below.size hb; (try simp only [World.size_alloc, World.size_setCell, World.size_drew, size_drewN'] at hsz)) | (go_at_call 37; refine (IsFinite_any _ _).mono ?_; rintro e w' ⟨rfl, n, rfl⟩) | (go_at_call 38; refine (neighbours_any _ _ _ _ (by omega) (by omega) (by omega)).mono ?_; rintro e w' ⟨u, rfl, hb, hO⟩; obtain ⟨pu, cu, rfl⟩ := OI.shape hO; (try simp only [World.size_alloc, World.size_setCell, World.size_drew, World.drewN] at hO); obtain ⟨hT, hk⟩ := bv_next hb (by (repeat (with_reducible first | assumption | apply Trk.alloc | apply Trk.setCell | apply Trk.drewN | apply Trk.drew | exact Trk.nil _))); simp only [SameOn, World.size_alloc, World.size_setCell, World.size_drew, size_drewN', and_true] at hk; have hsz := Below.size hb; (try simp only [World.size_alloc, World.size_setCell, World.size_drew, size_drewN'] at hsz)))
      go_ret3
      exact ⟨by rw [HO1.out, HE.out.1, HE.out.2]; rfl, hB⟩
end Go.Proofs.Ytphamdlnnfionaa
