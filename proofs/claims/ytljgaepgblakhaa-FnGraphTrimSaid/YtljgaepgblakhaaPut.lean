/- Contracts of the program's list of points with their places. Conditions: each contract's own. -/
import Derived.Test.YtljgaepgblakhaaKeys
import Derived.Test.YtljgaepgblakhaaSpecTrim
namespace Go.Proofs.Ytljgaepgblakhaa
set_option linter.unusedSimpArgs false
open Go.RowKit Go.Maps
set_option linter.unusedVariables false
set_option linter.unnecessarySimpa false
/-- From w to w' nothing has turned in the blocks that ok names. -/
structure Far (w w' : World) (ok : Nat → Prop) : Prop where
  os : w'.os = w.os
  tape : w'.tape = w.tape
  output : w'.output = w.output
  size : w.heap.size ≤ w'.heap.size
  block : ∀ t, t < w.heap.size → ok t → w'.heap[t]? = w.heap[t]?
section
variable {w w' w2 : World} {ok : Nat → Prop}
theorem Far.refl (w : World) (ok : Nat → Prop) : Far w w ok := ⟨rfl, rfl, rfl, Nat.le_refl _, fun _ _ _ => rfl⟩
theorem Far.grown (h : Far w w' ok) {row : Option Nat} (hg : w'.grownBy w2 row) (hr : ∀ t, ok t → t < w.heap.size → row ≠ some t) : Far w w2 ok :=
  ⟨hg.os.trans h.os, hg.tape.trans h.tape, hg.output.trans h.output, Nat.le_trans h.size hg.size, fun t ht ho => (hg.block t (Nat.lt_of_lt_of_le ht h.size) (fun e => hr t ho ht e.symm)).trans (h.block t ht ho)⟩
theorem Far.drew (h : Far w w' ok) : Far w w'.drew ok := ⟨h.os, h.tape, h.output, h.size, h.block⟩
theorem Far.drewN (h : Far w w' ok) (n : Nat) : Far w (w'.drewN n) ok := ⟨h.os, h.tape, h.output, h.size, h.block⟩
theorem Far.alloc (h : Far w w' ok) (o : Obj) : Far w (w'.alloc o) ok := h.grown (World.grownBy_alloc w' o none) (by simp)
theorem Far.set_ (h : Far w w' ok) {g o : Nat} (u : Value) (hr : ∀ t, ok t → t < w.heap.size → g ≠ t) : Far w (w'.setCell ⟨g, o, none⟩ u) ok :=
  h.grown (row := some g) (gn_set (World.grownBy.refl w' _) (.inl rfl) u) (fun t ho ht e => hr t ho ht (by injection e))
theorem Far.trans (h : Far w w' ok) {ok2 : Nat → Prop} (k : Far w' w2 ok2) (hr : ∀ t, ok t → t < w.heap.size → ok2 t) : Far w w2 ok :=
  ⟨k.os.trans h.os, k.tape.trans h.tape, k.output.trans h.output, Nat.le_trans h.size k.size, fun t ht ho => (k.block t (Nat.lt_of_lt_of_le ht h.size) (hr t ho ht)).trans (h.block t ht ho)⟩
theorem Far.less (h : Far w w' ok) {ok2 : Nat → Prop} (hr : ∀ t, ok2 t → t < w.heap.size → ok t) : Far w w' ok2 := ⟨h.os, h.tape, h.output, h.size, fun t ht ho => h.block t ht (hr t ho ht)⟩
theorem Far.below (h : Far w w' ok) {B : Nat} (hB : B ≤ w.heap.size) (hr : ∀ t, t < B → ok t) : Below B w w' := ⟨h.os, h.tape, h.output, h.size, fun t ht => h.block t (by omega) (hr t ht)⟩
theorem Far.own (h : Far w w' ok) {base e size n : Nat} {v : Value} {xs : List Value} (ho : w.ownsRow base e size v n xs) (hr : ∀ t, v.ownBlock = some t → ok t) : w'.ownsRow base e size v n xs := by
  refine ⟨ho.1, ?_⟩
  rcases ho.2 with hn | ⟨g, cap, cur, rfl, hb, hgg, rest⟩
  · exact .inl hn
  · exact .inr ⟨g, cap, cur, rfl, hb, by rw [h.block g (Array.getElem?_eq_some_iff.1 hgg).1 (hr g rfl)]; exact hgg, rest⟩
theorem Far.blk (h : Far w w' ok) {g t : Nat} {cs : List Value} (hb : Blk w g t cs) (hr : ok g) : Blk w' g t cs := (h.block g hb.lt hr).trans hb
end
/-- Block L is a list of points: its own row, and a map of their places. -/
structure PL (w : World) (base L m : Nat) (A : Option Addr) (c : Nat) (ps : List Pt) : Prop where
  blk : Blk w L 77 [.slice A ps.length c, .map (some m)]
  own : w.ownsRow base 29 7 (.slice A ps.length c) ps.length (pts ps)
  map : ∃ D : DataW Unit, w.ownsMap Try.prog 29 (plainElem Try.prog 3) m ps.length D ∧ Ties D ps
  ne : L ≠ m
  apL : (Value.slice A ps.length c).ownBlock ≠ some L
  apM : (Value.slice A ps.length c).ownBlock ≠ some m
theorem PL.far {w w' : World} {ok : Nat → Prop} {base L m c : Nat} {A : Option Addr} {ps : List Pt} (h : PL w base L m A c ps) (k : Far w w' ok) (hL : ok L) (hM : ok m) (hr : ∀ t, (Value.slice A ps.length c).ownBlock = some t → ok t) : PL w' base L m A c ps := by
  obtain ⟨D, hm, ht⟩ := h.map
  refine ⟨k.blk h.blk hL, k.own h.own hr, ⟨D, ?_, ht⟩, h.ne, h.apL, h.apM⟩
  obtain ⟨es, clock, hb, rest⟩ := hm
  exact ⟨es, clock, (k.block m (Array.getElem?_eq_some_iff.1 hb).1 hM).trans hb, rest⟩
/-- What a put may turn: the list's own blocks, and new ones. -/
def putOk (L m : Nat) (v : Value) (t : Nat) : Prop := t ≠ L ∧ t ≠ m ∧ v.ownBlock ≠ some t
theorem zero_int (W : World) : (zeroValue 3).run Try.prog W = .ok (.int .i64 0) W := by kernel_rfl
/-- The call returns a place; the list has the points ps then. -/
def RetPut (base L m : Nat) (v0 : Value) (ps : List Pt) (at_ : Int) (w : World) (e : Ending) (w' : World) : Prop :=
  ∃ A c, e = .returned (.int .i64 at_) ∧ PL w' base L m A c ps ∧ Far w w' (putOk L m v0) ∧ (∀ b, (Value.slice A ps.length c).ownBlock = some b → v0.ownBlock = some b ∨ w.heap.size ≤ b)
theorem newPointList_c (w : World) : Calls Try.prog 36 #[] w (fun e w' => e = .returned (.pointer (some ⟨w.heap.size + 1, 0, none⟩)) ∧ PL w' w.heap.size (w.heap.size + 1) w.heap.size none 0 [] ∧ Below w.heap.size w w' ∧ w.heap.size + 1 < w'.heap.size) := by
  have hmm := @run_makeMap Try.prog
  go_enter Try.func36, Try.ntmps36
  go_wp2
  go_returns
  refine ⟨rfl, ⟨?_, World.ownsRow_nil _ _ _ _, ⟨.map [], ?_, ties_nil⟩, by omega, by simp [Value.ownBlock], by simp [Value.ownBlock]⟩, by go_grown, by simp⟩
  · have := Blk.new (w.alloc (.map #[] 0)) 77 [.slice none 0 0, .map (some w.heap.size)]
    simpa using this
  · exact (World.ownsMap_made w Try.prog 29 (plainElem Try.prog 3)).alloc _
set_option maxHeartbeats 1600000 in
set_option maxRecDepth 100000 in
theorem put_c (base L m : Nat) (A : Option Addr) (c : Nat) (ps : List Pt) (x : Pt) (w : World) (h : PL w base L m A c ps) (hb : base ≤ w.heap.size) (hn : ps.length ≤ 1000) (hx : smallP x) :
    Calls Try.prog 38 #[.pointer (some ⟨L, 0, none⟩), ptV x] w (RetPut base L m (.slice A ps.length c) (ins ps x) ((ps.idxOf x : Nat) : Int) w) := by
  obtain ⟨i0, hi0, hz0, hz1, hz2⟩ := info_parts info_point
  obtain ⟨D, hmap, hties⟩ := h.map
  have hkey := kl_key hx
  have htx := hties x hx
  have hlL := h.blk.lt
  have hlM := hmap.lt
  obtain ⟨v, f, mm, op, a, y, z⟩ := x
  have H0 := Lib.hid h
  have HT := Lib.hid hties
  have HX := Lib.hid hx
  have l0 := h.blk.cell (i := 0) rfl
  have l1 := h.blk.cell (i := 1) rfl
  have lf := h.blk.free
  have hX := Blk.new w 29 (Pt.cells ⟨v, f, mm, op, a, y, z⟩)
  have x0 := hX.cell (i := 0) rfl
  have x1 := hX.cell (i := 1) rfl
  have x2 := hX.cell (i := 2) rfl
  have x3 := hX.cell (i := 3) rfl
  have x4 := hX.cell (i := 4) rfl
  have x5 := hX.cell (i := 5) rfl
  have x6 := hX.cell (i := 6) rfl
  have hmap1 : ∀ W : World, W.heap = (w.alloc (.cells (Pt.cells ⟨v, f, mm, op, a, y, z⟩).toArray 29)).heap → W.ownsMap Try.prog 29 (plainElem Try.prog 3) m ps.length D := fun W hW => by
    obtain ⟨es, clock, hb, rest⟩ := hmap.alloc (.cells (Pt.cells ⟨v, f, mm, op, a, y, z⟩).toArray 29)
    exact ⟨es, clock, by rw [hW]; exact hb, rest⟩
  have HM1 := Lib.hid hmap1
  have HKey := Lib.hid hkey
  clear h hties hx hX hmap1 hkey
  by_cases hin : (⟨v, f, mm, op, a, y, z⟩ : Pt) ∈ ps
  · have hrun : ∀ W : World, W.heap = (w.alloc (.cells (Pt.cells ⟨v, f, mm, op, a, y, z⟩).toArray 29)).heap → (Instr.lookup 75 (.map (some m)) (ptV ⟨v, f, mm, op, a, y, z⟩) true).run Try.prog W = .ok (.tuple #[.int .i64 ((ps.idxOf ⟨v, f, mm, op, a, y, z⟩ : Nat) : Int), .bool true]) W := fun W hW => by
      obtain ⟨u, q, e1, e2⟩ := (HM1.out W hW).look_ok law_pt Try.underlying75 (zero_int W) (plainElem_int Try.underlying3 (by decide)) HKey.out
      obtain ⟨cc, rfl, hc, _⟩ := plainElem_int_inv Try.underlying3 e2
      have hc1 := congrArg Prod.fst hc
      simp only at hc1
      rw [htx.2 hin] at hc1
      have hcc : ((ps.idxOf ⟨v, f, mm, op, a, y, z⟩ : Nat) : Int) = cc := by injection hc1 with e; injection e
      rw [e1, htx.1, ← hcc]
      simp [hin]
    have hi : ins ps ⟨v, f, mm, op, a, y, z⟩ = ps := if_pos hin
    rw [hi]
    have hr1 : ∀ k, (Instr.lookup 75 (.map (some m)) (.agg #[.int .i64 v, .int .i64 f, .int .i64 mm, .int .i64 op, .int .i64 a, .int .i64 y, .int .i64 z]) true).run Try.prog ((w.alloc (.cells #[.int .i64 v, .int .i64 f, .int .i64 mm, .int .i64 op, .int .i64 a, .int .i64 y, .int .i64 z] 29)).drewN k) = .ok (.tuple #[.int .i64 ((ps.idxOf ⟨v, f, mm, op, a, y, z⟩ : Nat) : Int), .bool true]) ((w.alloc (.cells #[.int .i64 v, .int .i64 f, .int .i64 mm, .int .i64 op, .int .i64 a, .int .i64 y, .int .i64 z] 29)).drewN k) := fun k => hrun _ rfl
    generalize ((ps.idxOf ⟨v, f, mm, op, a, y, z⟩ : Nat) : Int) = ix at *
    clear hrun hi hin htx hmap
    unfold ptV
    go_enter Try.func38, Try.ntmps38
    go_wp2
    go_quiet (fail)
    go_wp2
    go_returns
    exact ⟨A, c, rfl, H0.out.far (((Far.refl w (fun _ => True)).alloc _).drewN _) trivial trivial (fun _ _ => trivial), ((Far.refl w _).alloc _).drewN _, fun b hb => .inl hb⟩
  · have hrun : ∀ W : World, W.heap = (w.alloc (.cells (Pt.cells ⟨v, f, mm, op, a, y, z⟩).toArray 29)).heap → (Instr.lookup 75 (.map (some m)) (ptV ⟨v, f, mm, op, a, y, z⟩) true).run Try.prog W = .ok (.tuple #[.int .i64 0, .bool false]) W := fun W hW => by
      obtain ⟨u, q, e1, e2⟩ := (HM1.out W hW).look_ok law_pt Try.underlying75 (zero_int W) (plainElem_int Try.underlying3 (by decide)) HKey.out
      obtain ⟨cc, rfl, hc, _⟩ := plainElem_int_inv Try.underlying3 e2
      have hno : Maps.has D (klP ⟨v, f, mm, op, a, y, z⟩) = false := by rw [htx.1]; simp [hin]
      have hc1 := congrArg Prod.fst hc
      simp only at hc1
      rw [atKey_of_not_has hno] at hc1
      have hcc : 0 = cc := by injection hc1 with e; injection e
      rw [e1, hno, ← hcc]
    have hr1 : ∀ k, (Instr.lookup 75 (.map (some m)) (.agg #[.int .i64 v, .int .i64 f, .int .i64 mm, .int .i64 op, .int .i64 a, .int .i64 y, .int .i64 z]) true).run Try.prog ((w.alloc (.cells #[.int .i64 v, .int .i64 f, .int .i64 mm, .int .i64 op, .int .i64 a, .int .i64 y, .int .i64 z] 29)).drewN k) = .ok (.tuple #[.int .i64 0, .bool false]) ((w.alloc (.cells #[.int .i64 v, .int .i64 f, .int .i64 mm, .int .i64 op, .int .i64 a, .int .i64 y, .int .i64 z] 29)).drewN k) := fun k => hrun _ rfl
    have hi : ins ps ⟨v, f, mm, op, a, y, z⟩ = ps ++ [⟨v, f, mm, op, a, y, z⟩] := if_neg hin
    have hx1 : ps.idxOf (⟨v, f, mm, op, a, y, z⟩ : Pt) = ps.length := List.idxOf_eq_length hin
    rw [hi, hx1]
    have HIn := Lib.hid hin
    have HMap := Lib.hid hmap
    clear hrun hi hx1 hin htx hmap
    unfold ptV
    go_enter Try.func38, Try.ntmps38
    go_wp2
    go_quiet (fail)
    go_wp2
    obtain ⟨W1, hW1⟩ : ∃ W1, W1 = (w.alloc (.cells #[.int .i64 v, .int .i64 f, .int .i64 mm, .int .i64 op, .int .i64 a, .int .i64 y, .int .i64 z] 29)).drewN nq := ⟨_, rfl⟩
    have F1 := Lib.hid (show Far w W1 (fun _ => True) from hW1 ▸ ((Far.refl w (fun _ => True)).alloc _).drewN _)
    have s1 : W1.heap.size = w.heap.size + 1 := by rw [hW1]; simp
    have X1 := Lib.hid (show Blk W1 w.heap.size 29 (Pt.cells ⟨v, f, mm, op, a, y, z⟩) from hW1 ▸ Blk.new w 29 (Pt.cells ⟨v, f, mm, op, a, y, z⟩))
    have M1 := Lib.hid (HM1.out W1 (by rw [hW1]; rfl))
    have P1 := Lib.hid (H0.out.far F1.out trivial trivial (fun _ _ => trivial))
    have hbW : base ≤ W1.heap.size := by omega
    have hLW : L < W1.heap.size := by omega
    have hMW : m < W1.heap.size := by omega
    have hXW : w.heap.size < W1.heap.size := by omega
    have S1 := Lib.hid s1
    rw [← hW1]
    clear s1 hW1 x0 x1 x2 x3 x4 x5 x6 l0 l1 lf hr1
    have x0 := X1.out.cell (i := 0) rfl
    have x1 := X1.out.cell (i := 1) rfl
    have x2 := X1.out.cell (i := 2) rfl
    have x3 := X1.out.cell (i := 3) rfl
    have x4 := X1.out.cell (i := 4) rfl
    have x5 := X1.out.cell (i := 5) rfl
    have x6 := X1.out.cell (i := 6) rfl
    have l0 := P1.out.blk.cell (i := 0) rfl
    have l1 := P1.out.blk.cell (i := 1) rfl
    have lf := P1.out.blk.free
    have hnX : (Value.slice A ps.length c).ownBlock ≠ some w.heap.size := own_old H0.out.own (Nat.le_refl _)
    have hnL := H0.out.apL
    have hnM := H0.out.apM
    have HNe := Lib.hid H0.out.ne
    have l0a := Lib.hid ((P1.out.blk.alloc (.cells #[.int .i64 v, .int .i64 f, .int .i64 mm, .int .i64 op, .int .i64 a, .int .i64 y, .int .i64 z] 29)).cell (i := 0) rfl)
    have lfa := Lib.hid ((P1.out.blk.alloc (.cells #[.int .i64 v, .int .i64 f, .int .i64 mm, .int .i64 op, .int .i64 a, .int .i64 y, .int .i64 z] 29)).free 0)
    go_region_law (first
      | (refine step_append_lies _ (by rfl) _ _ _ (by rfl) base 29 i0 _ 7 56 Try.underlying23 hi0 hz0 hz1 hz2 rfl (by omega) (.slice A ps.length c) ps.length (pts ps) (by rfl) (P1.out.own.drew.alloc _) ⟨W1.heap.size, 0, none⟩ 1 1 (Pt.cells ⟨v, f, mm, op, a, y, z⟩) (by rfl) (by rfl) (seven_cells W1 29 W1.heap.size ⟨v, f, mm, op, a, y, z⟩ rfl) (by simp [Pt.cells, Value.oneCell']) (by omega) (by unfold maxLen; omega) (by omega) (by simp; omega) _ rfl ?_; intro gg capg w5 hown5 hgr5 hat5 hlt5; have l05 := cell_kept hgr5 (b := L) (o := 0) (by simp; omega) hnL l0a.out; have lf5 : w5.frozen? ⟨L, 0, none⟩ = false := (World.frozen?_of_block (a := ⟨L, 0, none⟩) (hgr5.block L (by simp; omega) (fun e => hnL e.symm))).trans lfa.out))
    all_goals
      have hs5 := hgr5.size
      simp at hs5
      have hgL : gg ≠ L := fun e => by
        rcases hat5 with h | h
        · exact hnL (by rw [h, e])
        · simp at h; omega
      have hgM : gg ≠ m := fun e => by
        rcases hat5 with h | h
        · exact hnM (by rw [h, e])
        · simp at h; omega
      have hgX : gg ≠ w.heap.size := fun e => by
        rcases hat5 with h | h
        · exact hnX (by rw [h, e])
        · simp at h; omega
      have hnew : (Value.slice A ps.length c).ownBlock = some gg ∨ w.heap.size ≤ gg := by
        rcases hat5 with h | h
        · exact .inl h
        · right; simp at h; omega
      have FF := ((((Far.refl W1 (fun t => (Value.slice A ps.length c).ownBlock ≠ some t)).alloc (.cells #[.int .i64 v, .int .i64 f, .int .i64 mm, .int .i64 op, .int .i64 a, .int .i64 y, .int .i64 z] 29)).drew).grown hgr5 (fun t ho _ => ho))
      have F5 := Lib.hid ((FF.less (ok2 := fun t => t ≠ L ∧ (Value.slice A ps.length c).ownBlock ≠ some t) (fun t h _ => h.2)).set_ (g := L) (o := 0) (.slice (some ⟨gg, 0, none⟩) (ps.length + 1) capg) (fun t h _ e => h.1 e.symm))
      have O5 := Lib.hid (own_set_other (o := 0) hown5 (b := L) (by simp [Value.ownBlock]; exact hgL) (.slice (some ⟨gg, 0, none⟩) (ps.length + 1) capg))
      have K5 := Lib.hid (((FF.blk P1.out.blk hnL).set_ 0 (.slice (some ⟨gg, 0, none⟩) (ps.length + 1) capg)))
      have X5 := Lib.hid (((FF.blk X1.out hnX).far (p := ⟨L, 0, none⟩) (by simp; omega) (.slice (some ⟨gg, 0, none⟩) (ps.length + 1) capg)))
      have M5 : Hid ((w5.setCell ⟨L, 0, none⟩ (.slice (some ⟨gg, 0, none⟩) (ps.length + 1) capg)).ownsMap Try.prog 29 (plainElem Try.prog 3) m ps.length D) := Lib.hid (by
        obtain ⟨es, clock, hb, rest⟩ := M1.out
        exact ⟨es, clock, (F5.out.block m hMW ⟨fun e => HNe.out e.symm, hnM⟩).trans hb, rest⟩)
      clear hown5 hgr5 hat5 hlt5 FF l05 lf5 x0 x1 x2 x3 x4 x5 x6 l0 l1 lf l0a lfa
      generalize w5.setCell ⟨L, 0, none⟩ (.slice (some ⟨gg, 0, none⟩) (ps.length + 1) capg) = W5 at *
      have x0 := X5.out.cell (i := 0) rfl
      have x1 := X5.out.cell (i := 1) rfl
      have x2 := X5.out.cell (i := 2) rfl
      have x3 := X5.out.cell (i := 3) rfl
      have x4 := X5.out.cell (i := 4) rfl
      have x5 := X5.out.cell (i := 5) rfl
      have x6 := X5.out.cell (i := 6) rfl
      have k1 := K5.out.cell (i := 1) rfl
      obtain ⟨W9, hrun9, hown9, hgr9⟩ := (show W5.drew.ownsMap Try.prog 29 (plainElem Try.prog 3) m ps.length D from M5.out).update law_pt Try.underlying75 (by unfold maxLen; omega) HKey.out (plainElem_int Try.underlying3 (a := ((ps.length : Nat) : Int)) (small_wf (by unfold smallI; omega)))
      unfold ptV at hrun9
      have HO9 := Lib.hid hown9
      have HG9 := Lib.hid hgr9
      clear hown9 hgr9
      go_wp2
      go_region
      go_wp2
      go_returns
      have hsz : (ps ++ [(⟨v, f, mm, op, a, y, z⟩ : Pt)]).length = ps.length + 1 := by simp
      refine ⟨some ⟨gg, 0, none⟩, capg, rfl, ⟨?_, ?_, ⟨D.put (klP ⟨v, f, mm, op, a, y, z⟩) (.lit (.int .i64 ((ps.length : Nat) : Int))), ?_, ties_put HT.out HMap.out.isMap HX.out HIn.out⟩, HNe.out, ?_, ?_⟩, ?_, ?_⟩
      · rw [hsz]
        exact (HG9.out.block L K5.out.lt (by simp; exact fun e => HNe.out e)).trans K5.out
      · rw [hsz, pts_add]
        exact (show W5.drew.ownsRow _ _ _ _ _ _ from O5.out).kept HG9.out (.inr (by simp [Value.ownBlock]; exact hgM))
      · rw [hsz]; exact HO9.out
      · simp [Value.ownBlock]; exact hgL
      · simp [Value.ownBlock]; exact hgM
      · refine ((F1.out.less (ok2 := putOk L m (.slice A ps.length c)) (fun _ _ _ => trivial)).trans ((F5.out.drew).less (ok2 := putOk L m (.slice A ps.length c)) (fun t h _ => ⟨h.1, h.2.2⟩)) (fun t h _ => h)).grown HG9.out (fun t h _ e => h.2.1 (by injection e with e; exact e.symm))
      · intro b hb'
        have : gg = b := by injection hb'
        subst this
        exact hnew
theorem putLook_c (base L m : Nat) (A : Option Addr) (c : Nat) (ps : List Pt) (x : Pt) (w : World) (h : PL w base L m A c ps) (hb : base ≤ w.heap.size) (hn : ps.length ≤ 1000) (hx : smallP x) :
    Calls Try.prog 39 #[.pointer (some ⟨L, 0, none⟩), ptV x] w (RetPut base L m (.slice A ps.length c) (look ps x).1 (look ps x).2 w) := by
  have hP := put_c base L m A c ps x
  obtain ⟨v, f, mm, op, a, y, z⟩ := x
  have H0 := Lib.hid h
  have HP := Lib.hid (fun W h h2 => hP W h h2 hn hx)
  clear hP h hx
  by_cases hyz : y = z
  · subst hyz
    have HE : Hid (look ps ⟨v, f, mm, op, a, y, y⟩ = (ps, y)) := by show _ = _; unfold look; rw [if_pos rfl]
    rw [HE.out]
    unfold ptV
    go_enter Try.func39, Try.ntmps39
    go_wp2
    go_returns
    exact ⟨A, c, rfl, H0.out.far ((Far.refl w (fun _ => True)).alloc _) trivial trivial (fun _ _ => trivial), (Far.refl w _).alloc _, fun b hb => .inl hb⟩
  · have HE : Hid (look ps ⟨v, f, mm, op, a, y, z⟩ = (ins ps ⟨v, f, mm, op, a, y, z⟩, ((ps.idxOf ⟨v, f, mm, op, a, y, z⟩ : Nat) : Int))) := by show _ = _; unfold look; rw [if_neg hyz]
    rw [HE.out]
    generalize ins ps ⟨v, f, mm, op, a, y, z⟩ = R at *
    generalize ((ps.idxOf ⟨v, f, mm, op, a, y, z⟩ : Nat) : Int) = I at *
    unfold ptV at *
    go_enter Try.func39, Try.ntmps39
    go_wp2_with fail
    refine (HP.out _ (H0.out.far ((Far.refl w (fun _ => True)).alloc _) trivial trivial (fun _ _ => trivial)) (by simp; omega)).mono ?_
    rintro e w1 ⟨A1, c1, rfl, h1, h2, h3⟩
    have H1 := Lib.hid h1
    have H2 := Lib.hid (((Far.refl w (putOk L m (.slice A ps.length c))).alloc _).trans h2 (fun t h _ => h))
    have H3 : Hid (∀ b, (Value.slice A1 R.length c1).ownBlock = some b → (Value.slice A ps.length c).ownBlock = some b ∨ w.heap.size ≤ b) := Lib.hid (fun b hb => by
      rcases h3 b hb with h | h
      · exact .inl h
      · right; simp at h; omega)
    clear h1 h2 h3
    go_wp2
    go_returns
    exact ⟨A1, c1, rfl, H1.out, H2.out, H3.out⟩
end Go.Proofs.Ytljgaepgblakhaa
