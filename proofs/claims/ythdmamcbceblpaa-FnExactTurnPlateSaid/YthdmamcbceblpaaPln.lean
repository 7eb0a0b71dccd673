/-
  A plate in a variable of the call's own, with four lists that are own and lie apart: how it grows. No condition but what each law says.
-/
import Derived.Test.YthdmamcbceblpaaPlMk
import Derived.Test.YthdmamcbceblpaaBgen
set_option linter.unusedSimpArgs false
set_option linter.unusedVariables false
set_option linter.unusedSectionVars false
namespace Go.Proofs.Ythdmamcbceblpaa
open Go Go.RowKit
open Go.ChangeShapes Go.WideShapes Go.ChangeAt Go.RowKit Go.Joins
structure Row where
  t : TypeId
  v : Value
  n : Nat
  vs : List Value
def Row.at (r : Row) (B : Nat) (w : World) : Prop := w.ownsRow B r.t 1 r.v r.n r.vs
/-- Rows of the call's own that lie apart. -/
def RS (B : Nat) (w : World) (f : Nat → Row) : Prop := (∀ i, i < 4 → (f i).at B w) ∧ ∀ i j, i < 4 → j < 4 → i ≠ j → ∀ k, (f i).v.ownBlock = some k → (f j).v.ownBlock ≠ some k
def upd (f : Nat → Row) (i : Nat) (r : Row) : Nat → Row := fun j => if j = i then r else f j
section
variable {B : Nat} {w w' : World} {f : Nat → Row} {i : Nat} {r : Row} {b : Nat} {cs : List Value}
theorem Row.at.kept {row : Option Nat} (h : r.at B w) (hg : w.grownBy w' row) (hne : ∀ k, r.v.ownBlock = some k → row ≠ some k) : r.at B w' := by
  refine World.ownsRow.kept h hg ?_
  cases hu : r.v.ownBlock with
  | none => exact .inl rfl
  | some k => exact .inr fun e => hne k hu e.symm
theorem Row.at.later (h : r.at B w) (hb : Below w.heap.size w w') : r.at B w' := h.kept (below_grown hb none) fun k _ e => by cases e
theorem RS.later (h : RS B w f) (hb : Below w.heap.size w w') : RS B w' f := ⟨fun i hi => (h.1 i hi).later hb, h.2⟩
theorem RS.grow (h : RS B w f) (hi : i < 4) (hg : w.grownBy w' (f i).v.ownBlock) (hr : r.at B w') (hv : r.v.ownBlock = (f i).v.ownBlock ∨ r.v.ownBlock = some w.heap.size) : RS B w' (upd f i r) := by
  have lt : ∀ j k, j < 4 → (f j).v.ownBlock = some k → k < w.heap.size := fun j k hj hk => (World.ownsRow.lt (h.1 j hj) k hk).2
  refine ⟨fun j hj => ?_, fun a c ha hc hac k hk hk' => ?_⟩
  · unfold upd
    split
    · exact hr
    · rename_i hne
      exact (h.1 j hj).kept hg fun k hk e => h.2 j i hj hi hne k hk e
  · unfold upd at hk hk'
    by_cases e1 : a = i
    · have e2 : ¬ c = i := fun e => hac (e1.trans e.symm)
      rw [if_pos e1] at hk
      rw [if_neg e2] at hk'
      rcases hv with hv | hv
      · exact h.2 c i hc hi e2 k hk' (hv.symm.trans hk)
      · have e3 : w.heap.size = k := by rw [hv] at hk; simpa using hk
        have := lt c k hc hk'
        omega
    · rw [if_neg e1] at hk
      by_cases e2 : c = i
      · rw [if_pos e2] at hk'
        rcases hv with hv | hv
        · exact h.2 a i ha hi e1 k hk (hv.symm.trans hk')
        · have e3 : w.heap.size = k := by rw [hv] at hk'; simpa using hk'
          have := lt a k ha hk
          omega
      · rw [if_neg e2] at hk'
        exact h.2 a c ha hc hac k hk hk'
/-- Such rows beside a variable with these cells. -/
def RV (B : Nat) (w : World) (b : Nat) (cs : List Value) (f : Nat → Row) : Prop := (owned w b cs ∧ B ≤ b) ∧ (∀ i, i < 4 → (f i).v.ownBlock ≠ some b) ∧ RS B w f
theorem RV.later (h : RV B w b cs f) (hb : Below w.heap.size w w') : RV B w' b cs f := ⟨⟨h.1.1.later hb, h.1.2⟩, h.2.1, h.2.2.later hb⟩
theorem RV.lt (h : RV B w b cs f) (h1 : 0 < cs.length) : b < w.heap.size := World.block_lt_of_cell? _ _ (h.1.1 0 cs[0] (List.getElem?_eq_getElem h1)).1
theorem owned_set {x : Value} {j : Nat} (h : owned w b cs) (hj : j < cs.length) : owned (w.setCell ⟨b, j, none⟩ x) b (cs.set j x) := by
  intro k y hk
  have hkl : k < cs.length := by have := (List.getElem?_eq_some_iff.1 hk).1; simpa using this
  have h1 := h k cs[k] (List.getElem?_eq_getElem hkl)
  refine ⟨?_, by rw [World.frozen?_setCell]; exact h1.2⟩
  by_cases e : j = k
  · subst e
    rw [World.cell?_setCell_same' _ _ _ (by rw [h1.1]; rfl)]
    rw [List.getElem?_set_self hkl] at hk
    exact hk
  · rw [List.getElem?_set_ne e] at hk
    rw [World.cell?_setCell_other]
    · exact (h k y hk).1
    · intro he
      simp only [Addr.mk.injEq, and_true, true_and] at he
      exact e he
/-- Behind an append to one of the rows. -/
theorem RV.grow (h : RV B w b cs f) (h1 : 0 < cs.length) (hi : i < 4) (hg : w.grownBy w' (f i).v.ownBlock) (hr : r.at B w') (hv : r.v.ownBlock = (f i).v.ownBlock ∨ r.v.ownBlock = some w.heap.size) : RV B w' b cs (upd f i r) := by
  have hlt := h.lt h1
  refine ⟨⟨owned_kept h.1.1 hg hlt fun k hk e => h.2.1 i hi (e ▸ hk), h.1.2⟩, fun j hj => ?_, h.2.2.grow hi hg hr hv⟩
  unfold upd
  split
  · rcases hv with hv | hv
    · rw [hv]; exact h.2.1 i hi
    · rw [hv]; intro e; simp only [Option.some.injEq] at e; omega
  · exact h.2.1 j hj
/-- Behind a store of a slice into the variable. -/
theorem RV.put {x : Value} {j : Nat} (h : RV B w b cs f) (hj : j < cs.length) : RV B (w.setCell ⟨b, j, none⟩ x) b (cs.set j x) f := by
  have hgs : w.grownBy (w.setCell ⟨b, j, none⟩ x) (some b) := ⟨rfl, rfl, rfl, by simp, fun k _ hk => Below.heap_setCell _ _ _ _ (fun e => hk (by rw [e]))⟩
  exact ⟨⟨owned_set h.1.1 hj, h.1.2⟩, h.2.1, fun i hi => (h.2.2.1 i hi).kept hgs fun k hk e => h.2.1 i hi (hk.trans e.symm), h.2.2.2⟩
end
/-- A plate's cells and its rows. -/
def plC (P : Pl) (l : Lay) : List Value := [.int .i64 P.W, .int .i64 P.H, .slice l.p1 P.a.length l.c1, .slice l.p2 P.b.length l.c2, .slice l.p3 P.c.length l.c3, .slice l.p4 P.d.length l.c4]
def plF (P : Pl) (l : Lay) : Nat → Row
  | 0 => ⟨33, .slice l.p1 P.a.length l.c1, P.a.length, P.a.map (Value.float .f32)⟩
  | 1 => ⟨33, .slice l.p2 P.b.length l.c2, P.b.length, P.b.map (Value.float .f32)⟩
  | 2 => ⟨33, .slice l.p3 P.c.length l.c3, P.c.length, P.c.map (Value.float .f32)⟩
  | _ => ⟨4, .slice l.p4 P.d.length l.c4, P.d.length, P.d.map Value.bool⟩
/-- A plate in a variable of the call's own. -/
def PV (B : Nat) (w : World) (b : Nat) (P : Pl) (l : Lay) : Prop := (owned w b (plC P l) ∧ B ≤ b) ∧ (∀ i, i < 4 → (plF P l i).v.ownBlock ≠ some b) ∧ RS B w (plF P l)
section
variable {B : Nat} {w w' : World} {b : Nat} {P : Pl} {l : Lay}
theorem PV.rv {f : Nat → Row} (h : RV B w b (plC P l) f) (e : ∀ i, i < 4 → f i = plF P l i) : PV B w b P l := by
  refine ⟨h.1, fun i hi => by rw [← e i hi]; exact h.2.1 i hi, fun i hi => by rw [← e i hi]; exact h.2.2.1 i hi, fun i j hi hj => by rw [← e i hi, ← e j hj]; exact h.2.2.2 i j hi hj⟩
theorem PV.later (h : PV B w b P l) (hb : Below w.heap.size w w') : PV B w' b P l := RV.later (cs := plC P l) h hb
theorem PV.lt (h : PV B w b P l) : b < w.heap.size := World.block_lt_of_cell? _ _ (h.1.1 0 _ rfl).1
theorem PV.own (h : PV B w b P l) : P.own B w l := ⟨h.2.2.1 0 (by omega), h.2.2.1 1 (by omega), h.2.2.1 2 (by omega), h.2.2.1 3 (by omega)⟩
theorem PV.apart (h : PV B w b P l) : Ap l.p1 l.p2 ∧ Ap l.p1 l.p3 ∧ Ap l.p1 l.p4 ∧ Ap l.p2 l.p3 ∧ Ap l.p2 l.p4 ∧ Ap l.p3 l.p4 := by
  have k : ∀ i j, i < 4 → j < 4 → i ≠ j → ∀ (p q : Option Addr) (n m c d : Nat), (plF P l i).v = .slice p n c → (plF P l j).v = .slice q m d → Ap p q := by
    intro i j hi hj hij p q n m c d e1 e2 x y hx hy e
    refine h.2.2.2 i j hi hj hij x.block ?_ ?_
    · rw [e1, hx]; rfl
    · rw [e2, hy, e]; rfl
  exact ⟨k 0 1 (by omega) (by omega) (by omega) _ _ _ _ _ _ rfl rfl, k 0 2 (by omega) (by omega) (by omega) _ _ _ _ _ _ rfl rfl, k 0 3 (by omega) (by omega) (by omega) _ _ _ _ _ _ rfl rfl, k 1 2 (by omega) (by omega) (by omega) _ _ _ _ _ _ rfl rfl, k 1 3 (by omega) (by omega) (by omega) _ _ _ _ _ _ rfl rfl, k 2 3 (by omega) (by omega) (by omega) _ _ _ _ _ _ rfl rfl⟩
theorem PV.px (h : PV B w b P l) {B' : Nat} (hB : B' ≤ B) : PX B' w.heap.size w P l := by
  obtain ⟨a1, a2, a3, a4, a5, a6⟩ := h.apart
  exact PX.mk' (h.own.base hB) a1 a2 a3 a4 a5 a6
/-- Behind an append: the variable still has its old cells. -/
theorem PV.cells (h : PV B w b P l) {i : Nat} (hi : i < 4) (hg : w.grownBy w' (plF P l i).v.ownBlock) : owned w' b (plC P l) := owned_kept h.1.1 hg h.lt fun k hk e => h.2.1 i hi (e ▸ hk)
theorem PV.app1 (h : PV B w b P l) {x : Nat} {q : Option Addr} {c : Nat} (hg : w.grownBy w' (Value.slice l.p1 P.a.length l.c1).ownBlock) (hO : OF B w' (.slice q (P.a.length + 1) c) (P.a ++ [x])) (hv : (Value.slice q (P.a.length + 1) c).ownBlock = (Value.slice l.p1 P.a.length l.c1).ownBlock ∨ (Value.slice q (P.a.length + 1) c).ownBlock = some w.heap.size) :
    PV B (w'.setCell ⟨b, 2, none⟩ (.slice q (P.a.length + 1) c)) b { P with a := P.a ++ [x] } { l with p1 := q, c1 := c } := by
  have e : (P.a ++ [x]).length = P.a.length + 1 := by simp
  have h2 := RV.put (j := 2) (x := .slice q (P.a.length + 1) c) (RV.grow (i := 0) (r := ⟨33, .slice q (P.a.length + 1) c, P.a.length + 1, (P.a ++ [x]).map (Value.float .f32)⟩) (w' := w') (show RV B w b (plC P l) (plF P l) from h) (by simp [plC]) (by omega) hg (by unfold OF at hO; rw [e] at hO; exact hO) hv) (by simp [plC])
  refine PV.rv (f := upd (plF P l) 0 ⟨33, .slice q (P.a.length + 1) c, P.a.length + 1, (P.a ++ [x]).map (Value.float .f32)⟩) ?_ ?_
  · simp only [plC, e]; exact h2
  · intro i hi
    match i, hi with
    | 0, _ => simp [upd, plF]
    | 1, _ => rfl
    | 2, _ => rfl
    | 3, _ => rfl
theorem PV.app2 (h : PV B w b P l) {x : Nat} {q : Option Addr} {c : Nat} (hg : w.grownBy w' (Value.slice l.p2 P.b.length l.c2).ownBlock) (hO : OF B w' (.slice q (P.b.length + 1) c) (P.b ++ [x])) (hv : (Value.slice q (P.b.length + 1) c).ownBlock = (Value.slice l.p2 P.b.length l.c2).ownBlock ∨ (Value.slice q (P.b.length + 1) c).ownBlock = some w.heap.size) :
    PV B (w'.setCell ⟨b, 3, none⟩ (.slice q (P.b.length + 1) c)) b { P with b := P.b ++ [x] } { l with p2 := q, c2 := c } := by
  have e : (P.b ++ [x]).length = P.b.length + 1 := by simp
  have h2 := RV.put (j := 3) (x := .slice q (P.b.length + 1) c) (RV.grow (i := 1) (r := ⟨33, .slice q (P.b.length + 1) c, P.b.length + 1, (P.b ++ [x]).map (Value.float .f32)⟩) (w' := w') (show RV B w b (plC P l) (plF P l) from h) (by simp [plC]) (by omega) hg (by unfold OF at hO; rw [e] at hO; exact hO) hv) (by simp [plC])
  refine PV.rv (f := upd (plF P l) 1 ⟨33, .slice q (P.b.length + 1) c, P.b.length + 1, (P.b ++ [x]).map (Value.float .f32)⟩) ?_ ?_
  · simp only [plC, e]; exact h2
  · intro i hi
    match i, hi with
    | 0, _ => rfl
    | 1, _ => simp [upd, plF]
    | 2, _ => rfl
    | 3, _ => rfl
theorem PV.app3 (h : PV B w b P l) {x : Nat} {q : Option Addr} {c : Nat} (hg : w.grownBy w' (Value.slice l.p3 P.c.length l.c3).ownBlock) (hO : OF B w' (.slice q (P.c.length + 1) c) (P.c ++ [x])) (hv : (Value.slice q (P.c.length + 1) c).ownBlock = (Value.slice l.p3 P.c.length l.c3).ownBlock ∨ (Value.slice q (P.c.length + 1) c).ownBlock = some w.heap.size) :
    PV B (w'.setCell ⟨b, 4, none⟩ (.slice q (P.c.length + 1) c)) b { P with c := P.c ++ [x] } { l with p3 := q, c3 := c } := by
  have e : (P.c ++ [x]).length = P.c.length + 1 := by simp
  have h2 := RV.put (j := 4) (x := .slice q (P.c.length + 1) c) (RV.grow (i := 2) (r := ⟨33, .slice q (P.c.length + 1) c, P.c.length + 1, (P.c ++ [x]).map (Value.float .f32)⟩) (w' := w') (show RV B w b (plC P l) (plF P l) from h) (by simp [plC]) (by omega) hg (by unfold OF at hO; rw [e] at hO; exact hO) hv) (by simp [plC])
  refine PV.rv (f := upd (plF P l) 2 ⟨33, .slice q (P.c.length + 1) c, P.c.length + 1, (P.c ++ [x]).map (Value.float .f32)⟩) ?_ ?_
  · simp only [plC, e]; exact h2
  · intro i hi
    match i, hi with
    | 0, _ => rfl
    | 1, _ => rfl
    | 2, _ => simp [upd, plF]
    | 3, _ => rfl
theorem PV.app4 (h : PV B w b P l) {x : Bool} {q : Option Addr} {c : Nat} (hg : w.grownBy w' (Value.slice l.p4 P.d.length l.c4).ownBlock) (hO : OL B w' (.slice q (P.d.length + 1) c) (P.d ++ [x])) (hv : (Value.slice q (P.d.length + 1) c).ownBlock = (Value.slice l.p4 P.d.length l.c4).ownBlock ∨ (Value.slice q (P.d.length + 1) c).ownBlock = some w.heap.size) :
    PV B (w'.setCell ⟨b, 5, none⟩ (.slice q (P.d.length + 1) c)) b { P with d := P.d ++ [x] } { l with p4 := q, c4 := c } := by
  have e : (P.d ++ [x]).length = P.d.length + 1 := by simp
  have h2 := RV.put (j := 5) (x := .slice q (P.d.length + 1) c) (RV.grow (i := 3) (r := ⟨4, .slice q (P.d.length + 1) c, P.d.length + 1, (P.d ++ [x]).map Value.bool⟩) (w' := w') (show RV B w b (plC P l) (plF P l) from h) (by simp [plC]) (by omega) hg (by unfold OL at hO; rw [e] at hO; exact hO) hv) (by simp [plC])
  refine PV.rv (f := upd (plF P l) 3 ⟨4, .slice q (P.d.length + 1) c, P.d.length + 1, (P.d ++ [x]).map Value.bool⟩) ?_ ?_
  · simp only [plC, e]; exact h2
  · intro i hi
    match i, hi with
    | 0, _ => rfl
    | 1, _ => rfl
    | 2, _ => rfl
    | 3, _ => simp [upd, plF]
end
def nilLay : Lay := ⟨none, 0, none, 0, none, 0, none, 0⟩
def nilPl : Pl := ⟨0, 0, [], [], [], []⟩
theorem nilPl_px (B S : Nat) (w : World) : PX B S w nilPl nilLay :=
  ⟨⟨⟨OF.nil0 _ _, OF.nil0 _ _, OF.nil0 _ _, World.ownsRow_nil _ _ _ _⟩, fun k hk => (by cases hk), fun k hk => (by cases hk), fun k hk => (by cases hk), fun k hk => (by cases hk)⟩, fun a b h => (by cases h), fun a b h => (by cases h), fun a b h => (by cases h), fun a b h => (by cases h), fun a b h => (by cases h), fun a b h => (by cases h)⟩
theorem PV.new {B : Nat} {w : World} {b : Nat} {W H : Int} (h : owned w b (plC ⟨W, H, [], [], [], []⟩ nilLay)) (hb : B ≤ b) : PV B w b ⟨W, H, [], [], [], []⟩ nilLay := by
  have e : ∀ i, i < 4 → (plF ⟨W, H, [], [], [], []⟩ nilLay i).v.ownBlock = none := by
    intro i hi
    match i, hi with
    | 0, _ => rfl
    | 1, _ => rfl
    | 2, _ => rfl
    | 3, _ => rfl
  refine ⟨⟨h, hb⟩, fun i hi => (by rw [e i hi]; intro h; cases h), fun i hi => ?_, fun i j hi _ _ k hk => by rw [e i hi] at hk; cases hk⟩
  match i, hi with
  | 0, _ => exact World.ownsRow_nil _ _ _ _
  | 1, _ => exact World.ownsRow_nil _ _ _ _
  | 2, _ => exact World.ownsRow_nil _ _ _ _
  | 3, _ => exact World.ownsRow_nil _ _ _ _
/-- A plate and a bool. -/
def BPB (w : World) (P : Pl) (b : Bool) (e : Ending) (w' : World) : Prop := ∃ l, e = .returned (.tuple #[.agg #[.int .i64 P.W, .int .i64 P.H, .slice l.p1 P.a.length l.c1, .slice l.p2 P.b.length l.c2, .slice l.p3 P.c.length l.c3, .slice l.p4 P.d.length l.c4], .bool b]) ∧ Below w.heap.size w w' ∧ PX w.heap.size w'.heap.size w' P l
def okP (b : Bool) (P : Pl) : Pl := bif b then P else nilPl
theorem okP_yes {b : Bool} {P : Pl} (h : b = true) : okP b P = P := by subst h; rfl
theorem okP_no {b : Bool} {P : Pl} (h : b = false) : okP b P = nilPl := by subst h; rfl
theorem bpb_no {w w' : World} {e : Ending} {P : Pl} {b : Bool} (he : e = .returned (.tuple #[.agg #[.int .i64 0, .int .i64 0, .slice none 0 0, .slice none 0 0, .slice none 0 0, .slice none 0 0], .bool false])) (hb : Below w.heap.size w w') (h : b = false) : BPB w (okP b P) b e w' := by
  subst h
  exact ⟨nilLay, he, hb, nilPl_px _ _ _⟩
/-- One bool appended: only the row itself turns. -/
theorem wpList_appQ {B : Nat} {xs : List Nat} {v : Value} {b r : Nat} {w : World} {ops : Array Oper} {rest : List Oper} {o : Oper} {a : Act} {Q : Exit → Act → World → Prop} (hg : o.guard = .none) {s x : Operand}
    (ho : o.op = .call { callee := .builtin .append, args := #[s, x], argTypes := #[22, 22] }) (hs : a.eval s = v) (hx : a.eval x = .slice (some ⟨b, 0, .none⟩) 1 1) (hO : OF B w v xs) (hc : w.cell? ⟨b, 0, .none⟩ = some (.float .f32 r)) (hn : xs.length < 1048576) (hB : B ≤ w.heap.size)
    (h : ∀ q c w', OF B w' (.slice q (xs.length + 1) c) (xs ++ [r]) → Below B w w' → w.grownBy w' v.ownBlock → ((Value.slice q (xs.length + 1) c).ownBlock = v.ownBlock ∨ (Value.slice q (xs.length + 1) c).ownBlock = some w.heap.size) → wpList Try.prog ops Q rest (a.put o.dst (.slice q (xs.length + 1) c)) w') : wpList Try.prog ops Q (o :: rest) a w := by
  obtain ⟨i0, hi, hz0, hz1, hz2⟩ := info_parts Try.infoF32
  refine wpList_append_own_at w hg s x 22 ho B 33 i0 (.float .f32 0) 1 4 Try.underlying22 hi hz0 hz1 hz2 rfl (by decide) v xs.length (xs.map (Value.float .f32)) hs hO ⟨b, 0, .none⟩ 1 1 [.float .f32 r] hx rfl ?_ ?_ (by unfold maxLen; omega) (by omega) hB ?_
  · intro j u hj
    match j, hj with
    | 0, hj => simp at hj; subst hj; simpa [Addr.add] using hc
    | j + 1, hj => simp at hj
  · intro u hu; simp at hu; subst hu; rfl
  · intro v' w' hown hgrow _ hblk
    have hO' : OF B w' v' (xs ++ [r]) := by
      unfold OF
      simpa using hown
    obtain ⟨q, c, rfl⟩ := hO'.shape
    simp only [List.length_append, List.length_cons, List.length_nil, Nat.zero_add] at hO' hblk ⊢
    exact h q c w' hO' ((Below.refl _ _).grown hgrow hB fun k hk => (OF.block hO k hk).1) hgrow hblk
theorem wpList_appQB {B : Nat} {xs : List Bool} {v : Value} {b : Nat} {r : Bool} {w : World} {ops : Array Oper} {rest : List Oper} {o : Oper} {a : Act} {Q : Exit → Act → World → Prop} (hg : o.guard = .none) {s x : Operand}
    (ho : o.op = .call { callee := .builtin .append, args := #[s, x], argTypes := #[23, 23] }) (hs : a.eval s = v) (hx : a.eval x = .slice (some ⟨b, 0, .none⟩) 1 1) (hO : OL B w v xs) (hc : w.cell? ⟨b, 0, .none⟩ = some (.bool r)) (hn : xs.length < 1048576) (hB : B ≤ w.heap.size)
    (h : ∀ q c w', OL B w' (.slice q (xs.length + 1) c) (xs ++ [r]) → Below B w w' → w.grownBy w' v.ownBlock → ((Value.slice q (xs.length + 1) c).ownBlock = v.ownBlock ∨ (Value.slice q (xs.length + 1) c).ownBlock = some w.heap.size) → wpList Try.prog ops Q rest (a.put o.dst (.slice q (xs.length + 1) c)) w') : wpList Try.prog ops Q (o :: rest) a w := by
  obtain ⟨i0, hi, hz0, hz1, hz2⟩ := info_parts Try.infoBool
  refine wpList_append_own_at w hg s x 23 ho B 4 i0 (.bool false) 1 1 Try.underlying23 hi hz0 hz1 hz2 rfl (by decide) v xs.length (xs.map Value.bool) hs hO ⟨b, 0, .none⟩ 1 1 [.bool r] hx rfl ?_ ?_ (by unfold maxLen; omega) (by omega) hB ?_
  · intro j u hj
    match j, hj with
    | 0, hj => simp at hj; subst hj; simpa [Addr.add] using hc
    | j + 1, hj => simp at hj
  · intro u hu; simp at hu; subst hu; rfl
  · intro v' w' hown hgrow _ hblk
    have hO' : OL B w' v' (xs ++ [r]) := by
      unfold OL
      simpa using hown
    obtain ⟨q, c, rfl⟩ := hO'.shape
    simp only [List.length_append, List.length_cons, List.length_nil, Nat.zero_add] at hO' hblk ⊢
    exact h q c w' hO' ((Below.refl _ _).grown hgrow hB fun k hk => (OL.block hO k hk).1) hgrow hblk
end Go.Proofs.Ythdmamcbceblpaa
