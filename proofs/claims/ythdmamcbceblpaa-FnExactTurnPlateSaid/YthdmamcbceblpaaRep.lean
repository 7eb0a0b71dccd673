/-
  slices.Repeat of one number. No condition but what each contract says.
-/
import Derived.Test.YthdmamcbceblpaaApl
import Derived.Test.YthdmamcbceblpaaPlanG
import Derived.Laws.CopyOwn
import Derived.Laws.Bits64b
import Derived.Deep.Upon
set_option linter.unusedSimpArgs false
set_option linter.unusedVariables false
set_option linter.unusedSectionVars false
namespace Go.Proofs.Ythdmamcbceblpaa
open Go Go.RowKit
open Go.ChangeShapes Go.WideShapes Go.ChangeAt Go.RowKit Go.Joins
/-- In a plan: a call that hands its last argument back, with 'true'. -/
def Clm.pass : Clm := ⟨1, fun x v => v = .tuple #[x.getLastD undef, .bool true], fun _ _ _ => True, fun _ => ⟨_, rfl⟩, fun _ _ _ _ _ _ => trivial, fun h => nomatch h⟩
theorem wpC_pass {P : Program} {ops : Array Oper} {Q : Exit → Act → World → Prop} {W : World} {l : List Oper} {cs : List Clm} {i : Nat} {ks : List (Nat × (World → Prop))} {a : Act} {o : Oper} {v0 : Value} (hx : (o.op.operands.toList.map a.eval).getLastD undef = v0) (hw : Region.wanted o (yielded ops a.tmps) = true) {f : FuncId} {args : Array Value} (h1 : ∀ w, (execOp a.eval o).run P w = .ok (.enter f args) w)
    (hc : ∀ w, Below W.heap.size W w → depK o ks w → Calls P f args w (BV w (.tuple #[v0, .bool true])))
    (h : wpC P ops Q W l cs (i + 1) ((i, fun _ => True) :: ks) (a.put o.dst (.tuple #[v0, .bool true]))) : wpC P ops Q W (o :: l) (Clm.pass :: cs) i ks a := by
  refine wpC_call Clm.pass rfl hw h1 (fun w hb hk => (hc w hb hk).mono ?_) ?_
  · rintro e w' ⟨rfl, hbl⟩
    exact ⟨_, rfl, hbl, by show _ = _; rw [hx], trivial⟩
  · intro v hv
    have hv : v = .tuple #[(o.op.operands.toList.map a.eval).getLastD undef, .bool true] := hv
    rw [hx] at hv
    subst hv
    exact h
theorem u64_mask (n : Nat) (h : n < 4294967296) : bits .and .u64 (n : Int) 4294967295 = (n : Int) := by
  have h' := bits_and_u64_nat n 4294967295 (by omega) (by omega)
  have e : n &&& 4294967295 = n % 4294967296 := Nat.and_two_pow_sub_one_eq_mod n 32
  rw [e, Nat.mod_eq_of_lt h] at h'
  exact h'
theorem mul64_any (n : Nat) (hn : n < 4294967296) (w : World) : Calls Try.prog 113 #[.int .u64 1, .int .u64 (n : Int)] w (fun e w' => e = .returned (.tuple #[.int .u64 0, .int .u64 (n : Int)]) ∧ w' = w) := by
  have hm := u64_mask n hn
  have hd : (n : Int) / 4294967296 = 0 := by omega
  have hw : IntKind.u64.wrap (n : Int) = (n : Int) := by rw [IntKind.wrap_u64]; omega
  have hm1 : bits .and .u64 1 4294967295 = 1 := by decide
  have hm0 : bits .and .u64 0 4294967295 = 0 := by decide
  have hw0 : IntKind.u64.wrap 0 = 0 := by decide
  go_enter Try.func113, Try.ntmps113
  go_wp2
  go_ret2
  exact ⟨by simp [hm, hm1, hm0, hw, hw0, hd], rfl⟩
theorem bitsMul_any (n : Nat) (hn : n < 4294967296) (w : World) : Calls Try.prog 101 #[.int .u64 1, .int .u64 (n : Int)] w (fun e w' => e = .returned (.tuple #[.int .u64 0, .int .u64 (n : Int)]) ∧ w' = w) := by
  go_enter Try.func101, Try.ntmps101
  go_wp2_with (go_at_call 113; refine (mul64_any n hn _).mono ?_; rintro e w' ⟨rfl, hw'⟩; rw [hw']; clear hw')
  go_ret2
  exact ⟨rfl, rfl⟩
theorem at_copy {P : Program} {w : World} {ops : Array Oper} {rest : List Oper} {o : Oper} {a : Act} {Q : Exit → Act → World → Prop} {d s : Operand} {dT sT : TypeId} (_ : o.op = .call { callee := .builtin .copy, args := #[d, s], argTypes := #[dT, sT] }) (h : Stop (wpList P ops Q (o :: rest) a w)) : wpList P ops Q (o :: rest) a w := h
/-- A row of the call's own, with all of its cells. -/
def RowAt (w : World) (g : Nat) (zs : List Nat) : Prop := w.heap[g]? = some (.cells (zs.map (Value.float .f32)).toArray 33 (0, 0))
theorem RowAt.later {w w' : World} {g : Nat} {zs : List Nat} (h : RowAt w g zs) (hb : Below w.heap.size w w') : RowAt w' g zs := (hb.block g (Array.getElem?_eq_some_iff.1 h).1).trans h
theorem RowAt.cell {w : World} {g : Nat} {zs : List Nat} (h : RowAt w g zs) {j : Nat} (hj : j < zs.length) : w.cell? ⟨g, j, none⟩ = some (.float .f32 (zs.getD j 0)) := by
  rw [cell_of_row w g j _ _ (0, 0) h]
  simp [hj]
theorem RowAt.of {B : Nat} {w : World} {g n : Nat} {zs : List Nat} (h : OF B w (.slice (some ⟨g, 0, none⟩) n n) zs) (hn : zs.length = n) : RowAt w g zs := by
  subst hn
  rcases h.2 with ⟨h', _⟩ | ⟨g', c', cur, h1, _, h3, _, _, h6, h7⟩
  · simp at h'
  · simp only [Value.slice.injEq, Option.some.injEq, Addr.mk.injEq, and_true, true_and] at h1
    obtain ⟨rfl, rfl⟩ := h1
    unfold RowAt
    rw [h3, ← h7, List.take_of_length_le (by rw [Array.length_toList, h6]; exact Nat.le_refl _)]
theorem RowAt.own {B : Nat} {w : World} {g : Nat} {zs : List Nat} (h : RowAt w g zs) (hB : B ≤ g) (hn : zs.length ≤ maxLen) : OF B w (.slice (some ⟨g, 0, none⟩) zs.length zs.length) zs :=
  ⟨by simp, .inr ⟨g, zs.length, _, rfl, hB, h, Nat.le_refl _, hn, by simp, by rw [List.take_of_length_le (by simp)]⟩⟩
theorem rep_copy {n k : Nat} (r : Nat) (h1 : 1 ≤ k) (h2 : k < n) : ((List.replicate k r ++ List.replicate (n - k) 0).map (Value.float .f32)).take k ++ ((List.replicate (Nat.min k (n - k)) r).map (Value.float .f32) ++ ((List.replicate k r ++ List.replicate (n - k) 0).map (Value.float .f32)).drop (k + Nat.min k (n - k))) = (List.replicate (k + Nat.min k (n - k)) r ++ List.replicate (n - (k + Nat.min k (n - k))) 0).map (Value.float .f32) := by
  simp only [List.map_append, List.map_replicate]
  rw [List.take_append_of_le_length (by simp), List.take_of_length_le (by simp), List.drop_append, List.drop_of_length_le (by simp), List.nil_append, List.length_replicate, List.drop_replicate, ← List.append_assoc, List.replicate_append_replicate]
  congr 2
  omega
/-- A slice of numbers, whatever it is, appended to an own one. -/
theorem wpList_appV {B : Nat} {xs zs : List Nat} {v u : Value} {w : World} {ops : Array Oper} {rest : List Oper} {o : Oper} {a : Act} {Q : Exit → Act → World → Prop} (hg : o.guard = .none) {s x : Operand}
    (ho : o.op = .call { callee := .builtin .append, args := #[s, x], argTypes := #[22, 22] }) (hs : a.eval s = v) (hx : a.eval x = u) (hO : OF B w v xs) (hc : FS w u zs) (hn : xs.length + zs.length ≤ 1048576) (hB : B ≤ w.heap.size)
    (h : ∀ q c w', OF B w' (.slice q (xs.length + zs.length) c) (xs ++ zs) → Below B w w' → wpList Try.prog ops Q rest (a.put o.dst (.slice q (xs.length + zs.length) c)) w') : wpList Try.prog ops Q (o :: rest) a w := by
  obtain ⟨p, c, rfl, h1, h2, h3⟩ := hc
  cases p with
  | some ad =>
    obtain ⟨b, of, sp⟩ := ad
    by_cases hz : zs.length = 0
    · have hz0 : zs = [] := List.eq_nil_of_length_eq_zero hz
      subst hz0
      obtain ⟨i0, hi, hz0, hz1, hz2⟩ := info_parts Try.infoF32
      refine wpList_append_own w hg s x 22 ho B 33 i0 (.float .f32 0) 1 4 Try.underlying22 hi hz0 hz1 hz2 rfl (by decide) v xs.length (xs.map (Value.float .f32)) hs hO ⟨b, of, sp⟩ 0 c [] hx rfl (by intro j u hj; simp at hj) (by intro u hu; cases hu) (by unfold maxLen; omega) (by omega) hB ?_
      intro v' w' hown hgrow _
      have hO' : OF B w' v' (xs ++ []) := by
        unfold OF
        simpa using hown
      obtain ⟨q, c, rfl⟩ := hO'.shape
      have e : (xs ++ ([] : List Nat)).length = xs.length + ([] : List Nat).length := by simp
      rw [e] at hO' ⊢
      exact h q c w' hO' ((Below.refl _ _).grown hgrow hB fun k hk => (OF.block hO k hk).1)
    · obtain ⟨b', o', e, _⟩ := h3 0 (by omega)
      cases e
      refine wpList_appL hg ho hs hx hO (fun i hi => ?_) hn hB h
      obtain ⟨b', o', e, hcell⟩ := h3 i hi
      cases e
      exact hcell
  | none =>
    have hz0 : zs = [] := by
      cases zs with
      | nil => rfl
      | cons z zs => obtain ⟨_, _, e, _⟩ := h3 0 (by simp); cases e
    subst hz0
    obtain ⟨i0, hi, hz0, hz1, hz2⟩ := info_parts Try.infoF32
    have hshape : ∃ q k, v = .slice q xs.length k ∧ xs.length ≤ k := by
      rcases OF.view hO with ⟨rfl, rfl⟩ | ⟨g, k, rfl, _, _, hk, _⟩
      · exact ⟨none, 0, rfl, Nat.le_refl _⟩
      · exact ⟨_, k, rfl, hk⟩
    obtain ⟨q, k, rfl, hk⟩ := hshape
    have hr := run_append_nothing (P := Try.prog) w 22 22 o.type 33 i0 Try.underlying22 hi q xs.length k hk (.slice none 0 c) (Src.ofNil w Try.underlying22 c)
    refine wpList_plain hg fun K hK => ?_
    unfold Oper.wp execOp
    have hx' : a.eval x = .slice none 0 c := hx
    simp only [ho, resolve, invoke, builtin, Sem.run_bind, Sem.run_pure, Result.andThen_ok, List.map_toArray, List.map_cons, List.map_nil, hs, hx', hr]
    refine hK _ _ ?_
    have := h q k w (by simpa using hO) (Below.refl _ _)
    simpa using this
theorem wpL_named {P : Program} {ops l : _} {Q : Exit → Act → World → Prop} {a : Act} {w : World} (h : ∀ W, W = w → wpList P ops Q l a W) : wpList P ops Q l a w := h w rfl
theorem exec_repCopy {o : Oper} {a : Act} {w W0 : World} {d s : Operand} {g k n r m : Nat} (hm : m = Nat.min k (n - k)) (ho : o.op = .call { callee := .builtin .copy, args := #[d, s], argTypes := #[22, 22] })
    (hd : a.eval d = .slice (some ⟨g, k, none⟩) (n - k) (n - k)) (hs : a.eval s = .slice (some ⟨g, 0, none⟩) k n) (hr : RowAt w g (List.replicate k r ++ List.replicate (n - k) 0)) (h1 : 1 ≤ k) (h2 : k < n) (hb : Below W0.heap.size W0 w) (hB : W0.heap.size ≤ g) :
    ∃ w', (execOp a.eval o).run Try.prog w = .ok (.value (.int .i64 (m : Int))) w' ∧ (RowAt w' g (List.replicate (k + m) r ++ List.replicate (n - (k + m)) 0) ∧ Below W0.heap.size W0 w') ∧ True := by
  have hsz : (Try.prog.info? 33).map (·.size) = some 1 := by kernel_rfl
  have hmin : m ≤ n - k := by rw [hm]; exact Nat.min_le_right ..
  have hmin2 : m ≤ k := by rw [hm]; exact Nat.min_le_left ..
  have hrow : w.heap[g]? = some (.cells ((List.replicate k r ++ List.replicate (n - k) 0).map (Value.float .f32)).toArray 33 (0, 0)) := hr
  have hcp := rep_copy r h1 h2
  rw [← hm] at hcp
  have hrun := run_copy_row (P := Try.prog) w 22 22 o.type 33 g k (n - k) (n - k) ⟨g, 0, none⟩ k n _ 33 ((List.replicate m r).map (Value.float .f32)) Try.underlying22 hsz hrow (by simp [hm]) (fun j v hj => by
      have hjl : j < m := by have := (List.getElem?_eq_some_iff.1 hj).1; simpa using this
      have hv : v = .float .f32 r := by
        rw [List.getElem?_map, List.getElem?_replicate, if_pos hjl] at hj
        simpa using hj.symm
      subst hv
      have hc := hr.cell (j := j) (by simp; omega)
      rw [List.getD_eq_getElem?_getD, List.getElem?_append_left (by simp; omega), List.getElem?_replicate, if_pos (by omega)] at hc
      have ea : (⟨g, 0, none⟩ : Addr).add j = ⟨g, j, none⟩ := by
        by_cases h0 : j = 0
        · subst h0; rfl
        · simp [Addr.add, h0]
      rw [ea]
      simpa using hc) (by simp; omega) (by intro v hv; simp at hv; obtain ⟨_, rfl⟩ := hv; rfl)
  simp only [List.length_map, List.length_replicate, List.append_assoc, hcp] at hrun
  refine ⟨w.setRow g ((List.replicate (k + m) r ++ List.replicate (n - (k + m)) 0).map (Value.float .f32)).toArray, ?_, ⟨?_, below_setRow hb hB _⟩, trivial⟩
  · unfold execOp
    simp only [ho, resolve, invoke, builtin, Sem.run_bind, Sem.run_pure, Result.andThen_ok, List.map_toArray, List.map_cons, List.map_nil, hd, hs, hrun]
    rfl
  · exact setRow_heap w g _ _ _ _ hrow
set_option maxHeartbeats 4000000 in
set_option maxRecDepth 100000 in
theorem repeatF_any (r n : Nat) (v : Value) (w : World) (hs : FS w v [r]) (hn : 1 ≤ n ∧ n ≤ 1048576) : Calls Try.prog 70 #[v, .int .i64 (n : Int)] w (fun e w' => ∃ u, e = .returned u ∧ Below w.heap.size w w' ∧ OF w.heap.size w' u (List.replicate n r)) := by
  obtain ⟨hn1, hn2⟩ := hn
  obtain ⟨b, o, c, rfl, _, HV⟩ := hs.ptr (Nat.le_refl 1)
  have hcell : w.cell? ⟨b, o, none⟩ = some (.float .f32 r) := HV.out 0 (by simp)
  have hbw : b < w.heap.size := World.block_lt_of_cell? _ _ hcell
  obtain ⟨i0, hi, hz0, hz1, hz2⟩ := info_parts Try.infoF32
  have hib : i0.bytes * n ≤ 281474976710656 := by rw [hz2]; omega
  have hml : n ≤ maxLen := by unfold maxLen; omega
  have hw1 : IntKind.u64.wrap (n : Int) = (n : Int) := by rw [IntKind.wrap_u64]; omega
  have hw2 : IntKind.i64.wrap (n : Int) = (n : Int) := IntWalk.i64_in _ (by omega)
  have hw3 : IntKind.u64.wrap 1 = 1 := by decide
  have hneg : ¬ (n : Int) < 0 := by omega
  have hbig : ¬ (9223372036854775807 : Int) < (n : Int) := by omega
  have hnpos : (0 : Int) < n := by omega
  have HC := Lib.hid hcell
  clear HV hs
  go_enter Try.func70, Try.ntmps70
  go_wp2_with (first | (go_at_call 101; refine (bitsMul_any n (by omega) _).mono ?_; rintro e w' ⟨rfl, hw'⟩; rw [hw']; clear hw') | (at_make; refine wpList_make_full _ rfl _ _ 22 rfl w.heap.size 33 i0 (.float .f32 0) 1 Try.underlying22 hi hz0 hz1 _ _ _ _ n rfl rfl rfl rfl hib hml (Nat.le_refl _) ?_; intro w1 hown hgrow) | (with_reducible refine at_list ?_; refine at_copy rfl ?_))
  unfold Stop
  have hown0 : OF w.heap.size w1 (.slice (some ⟨w.heap.size, 0, none⟩) n n) (List.replicate n 0) := by
    unfold OF
    simp only [Value.cells, Nat.mul_one, toList_madeCells_one, List.length_replicate, List.map_replicate] at hown ⊢
    exact hown
  have hB0 : Below w.heap.size w w1 := (Below.refl _ _).grown hgrow (Nat.le_refl _) (fun k h => by cases h)
  have hR0 : RowAt w1 w.heap.size (List.replicate n 0) := RowAt.of hown0 (by simp)
  have hsz : (Try.prog.info? 33).map (·.size) = some 1 := by kernel_rfl
  have hc1 : w1.cell? ⟨b, o, none⟩ = some (.float .f32 r) := cell_later hB0 HC.out
  have HB0 := Lib.hid hB0
  have e0 : ((List.replicate n 0).map (Value.float .f32)).toArray.toList.take 0 ++ ([Value.float .f32 r] ++ ((List.replicate n 0).map (Value.float .f32)).toArray.toList.drop (0 + 1)) = (List.replicate 1 r ++ List.replicate (n - 1) 0).map (Value.float .f32) := by
    simp
  refine wpList_copy_own rfl _ _ 22 22 rfl 33 Try.underlying22 hsz w.heap.size 0 n n ⟨b, o, none⟩ 1 c rfl rfl _ 33 hR0 [.float .f32 r] (by show 1 = Nat.min 1 n; exact (Nat.min_eq_left hn1).symm) ?_ (by simp; omega) (by simp [Value.oneCell']) ?_
  · intro j v hj
    match j, hj with
    | 0, hj => simp at hj; subst hj; simpa [Addr.add] using hc1
    | j + 1, hj => simp at hj
  refine wpL_named ?_
  intro w2 hw2
  have HR2 : Hid (RowAt w2 w.heap.size (List.replicate 1 r ++ List.replicate (n - 1) 0)) := by
    show RowAt _ _ _
    rw [hw2]
    unfold RowAt
    rw [← e0]
    exact setRow_heap w1 w.heap.size _ _ _ _ hR0
  have HB2 : Hid (Below w.heap.size w w2) := by show Below _ _ _; rw [hw2]; exact below_setRow HB0.out (Nat.le_refl _) _
  clear hw2 hR0 hown0 hB0 hown hgrow e0 hc1
  go_wp2_with fail
  go_loopw [8] (fun z wr => ∃ k : Nat, 1 ≤ k ∧ k ≤ n ∧ z = .int .i64 (k : Int) ∧ Hid (RowAt wr w.heap.size (List.replicate k r ++ List.replicate (n - k) 0)) ∧ Hid (Below w.heap.size w wr)) (fun z _ => n - (intOf z).toNat)
  case atStart => exact ⟨1, Nat.le_refl _, hn1, rfl, HR2.out, HB2.out⟩
  case round =>
    obtain ⟨k, hk1, hkn, rfl, HR, HB⟩ := hrel
    by_cases hlt : k < n
    · have hlti : (k : Int) < (n : Int) := by omega
      have hki : 0 ≤ (k : Int) := by omega
      have hkt : ((k : Int)).toNat = k := by omega
      have hnk : n ≠ k := by omega
      obtain ⟨m, hm⟩ : ∃ m, m = Nat.min k (n - k) := ⟨_, rfl⟩
      have hm1 : 1 ≤ m ∧ k + m ≤ n := by rw [hm]; exact ⟨Nat.le_min.2 ⟨hk1, by omega⟩, by have := Nat.min_le_right k (n - k); have e : Nat.min k (n - k) = min k (n - k) := rfl; omega⟩
      obtain ⟨hm1, hm2⟩ := hm1
      have hmw : IntKind.i64.wrap ((k : Int) + (m : Int)) = (k : Int) + (m : Int) := IntWalk.i64_in _ (by omega)
      have HM := Lib.hid hm
      have hrow := HR.out
      have hbel := HB.out
      clear hm
      go_wp2_with fail
      (apply wp_region_planG (F := (fun _ => True)) (fun w' => RowAt w' w.heap.size (List.replicate k r ++ List.replicate (n - k) 0) ∧ Below w.heap.size w w') (fun a c h hb => ⟨h.1.later hb, h.2.trans (hb.mono h.2.size)⟩); (case hW => exact (by exact ⟨hrow, hbel⟩)); (case hF0 => exact (by intro w h; first | exact h | trivial)); ((apply wpG_det; (case hw => exact rfl); (case hs => (intro cs b h; cases h)); (case h1 => (intro w'; go_simp <;> exact rfl))); apply wpG_norm; (case ha => (simp only [Act.put, List.setIfInBounds_toArray, List.set_cons_zero, List.set_cons_succ]; exact rfl))); ((apply wpG_det; (case hw => exact rfl); (case hs => (intro cs b h; cases h)); (case h1 => (intro w'; go_simp <;> exact rfl))); apply wpG_norm; (case ha => (simp only [Act.put, List.setIfInBounds_toArray, List.set_cons_zero, List.set_cons_succ]; exact rfl))); ((apply wpG_det; (case hw => exact rfl); (case hs => (intro cs b h; cases h)); (case h1 => (intro w'; go_simp <;> exact rfl))); apply wpG_norm; (case ha => (simp only [Act.put, List.setIfInBounds_toArray, List.set_cons_zero, List.set_cons_succ]; exact rfl))); ((apply wpG_det; (case hw => exact rfl); (case hs => (intro cs b h; cases h)); (case h1 => (intro w'; go_simp <;> exact rfl))); apply wpG_norm; (case ha => (simp only [Act.put, List.setIfInBounds_toArray, List.set_cons_zero, List.set_cons_succ]; exact rfl))); ((apply wpG_det; (case hw => exact rfl); (case hs => (intro cs b h; cases h)); (case h1 => (intro w'; go_simp <;> exact rfl))); apply wpG_norm; (case ha => (simp only [Act.put, List.setIfInBounds_toArray, List.set_cons_zero, List.set_cons_succ]; exact rfl))); ((apply wpG_det; (case hw => exact rfl); (case hs => (intro cs b h; cases h)); (case h1 => (intro w'; go_simp <;> exact rfl))); apply wpG_norm; (case ha => (simp only [Act.put, List.setIfInBounds_toArray, List.set_cons_zero, List.set_cons_succ]; exact rfl))); ((apply wpG_det; (case hw => exact rfl); (case hs => (intro cs b h; cases h)); (case h1 => (intro w'; go_simp <;> exact rfl))); apply wpG_norm; (case ha => (simp only [Act.put, List.setIfInBounds_toArray, List.set_cons_zero, List.set_cons_succ]; exact rfl))); ((apply wpG_turn (.int .i64 (m : Int)) (fun w' => RowAt w' w.heap.size (List.replicate (k + m) r ++ List.replicate (n - (k + m)) 0) ∧ Below w.heap.size w w') (fun _ => True) (fun a c h hb => ⟨h.1.later hb, h.2.trans (hb.mono h.2.size)⟩) (fun _ _ _ _ => trivial); (case hw => exact rfl); (case h1 => (intro w' hi hk0; exact exec_repCopy HM.out rfl rfl rfl hi.1 hk1 hlt hi.2 (Nat.le_refl _)))); apply wpG_norm; (case ha => (simp only [Act.put, List.setIfInBounds_toArray, List.set_cons_zero, List.set_cons_succ]; exact rfl))); ((apply wpG_det; (case hw => exact rfl); (case hs => (intro cs b h; cases h)); (case h1 => (intro w'; go_simp <;> exact rfl))); apply wpG_norm; (case ha => (simp only [Act.put, List.setIfInBounds_toArray, List.set_cons_zero, List.set_cons_succ]; exact rfl))); ((apply wpG_det; (case hw => exact rfl); (case hs => (intro cs b h; cases h)); (case h1 => (intro w'; go_simp <;> exact rfl))); apply wpG_norm; (case ha => (simp only [Act.put, List.setIfInBounds_toArray, List.set_cons_zero, List.set_cons_succ]; exact rfl))); refine wpG_nil ?_; intro w' hi hkk)
      rotate_left
      case hFs => repeat' (first | exact trivial | (intro u hu; exact trivial) | constructor)
      all_goals (try (first | kernel_rfl | rfl))
      have HR8 := Lib.hid hi.1
      have HB8 := Lib.hid hi.2
      clear hi hkk
      go_wp2_with fail
      go_roundw
      case rel => exact ⟨k + m, by omega, hm2, by first | rfl | (congr 1; omega) | (simp; done), HR8.out, HB8.out⟩
      case measure => simp [intOf]; omega
    · have hke : k = n := by omega
      have hlti : ¬ (k : Int) < (n : Int) := by omega
      have HO : Hid (OF w.heap.size wr (.slice (some ⟨w.heap.size, 0, none⟩) n n) (List.replicate n r)) := by
        show OF _ _ _ _
        have h := HR.out
        subst hke
        rw [Nat.sub_self, List.replicate_zero, List.append_nil] at h
        have h2 := h.own (Nat.le_refl _) (by simpa using hml)
        rw [List.length_replicate] at h2
        exact h2
      go_wp2_with fail
      go_ret
      exact ⟨_, rfl, HB.out, HO.out⟩
end Go.Proofs.Ythdmamcbceblpaa
