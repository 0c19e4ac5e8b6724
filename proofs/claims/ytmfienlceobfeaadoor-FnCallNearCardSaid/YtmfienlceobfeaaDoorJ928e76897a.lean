/- Drawn words, calls and tests. Conditions: each contract's own. -/
import Derived.Test.YtmfienlceobfeaaDoorDraw
import Derived.Test.YtmfienlceobfeaaDoorJ9015c1cad7
import Derived.Deep.RegionHeld3
import Derived.Deep.AppendLies
import Derived.Deep.RegionLaw
namespace Go.Proofs.YtmfienlceobfeaaDoor
set_option linter.unusedSimpArgs false
open Go.RowKit
set_option linter.unusedVariables false
theorem ints_get {l : List Value} {i : Nat} (h : i < l.length) (ha : ∀ v ∈ l, ∃ x, v = .int .i64 x) : ∃ x, l[i] = .int .i64 x := ha _ (List.getElem_mem h)
theorem gr_grown {a w w' : World} {g : Nat} {row : Option Nat} (h : a.grownBy w (some g)) (k : w.grownBy w' row) (hr : ∀ b, row = some b → b = g ∨ a.heap.size ≤ b) : a.grownBy w' (some g) :=
  ⟨k.os.trans h.os, k.tape.trans h.tape, k.output.trans h.output, Nat.le_trans h.size k.size, fun i hi hne => (k.block i (Nat.lt_of_lt_of_le hi h.size) (fun e => by
    rcases hr i e.symm with r | r
    · exact hne (by rw [r])
    · omega)).trans (h.block i hi hne)⟩
/-- A reader stays where another block is written. -/
theorem Dr.other {w w' : World} {g t : Nat} {p : Int} {A : Option Addr} {n c : Nat} {xs : List Int} {row : Option Nat} (h : Dr w g t p A n c xs) (k : w.grownBy w' row) (hr : ∀ b, row = some b → g < b) : Dr w' g t p A n c xs :=
  ⟨(k.block g h.blk.lt (fun e => by have := hr g e.symm; omega)).trans h.blk, ⟨h.rd.1, fun hn => by
    obtain ⟨b, off, e, hlt, hc⟩ := h.rd.2 hn
    exact ⟨b, off, e, hlt, fun j u hu => (World.cell?_of_block (w := w) (a := ⟨b, off + j, none⟩) (k.block b (Nat.lt_trans hlt h.blk.lt) (fun e => by have := hr b e.symm; omega))).trans (hc j u hu)⟩⟩, h.byte, h.size, h.low⟩
theorem Blk.other {w w' : World} {g t : Nat} {cs : List Value} {row : Option Nat} (h : Blk w g t cs) (k : w.grownBy w' row) (hr : row ≠ some g) : Blk w' g t cs := (k.block g h.lt (fun e => hr e.symm)).trans h
theorem Dr.far {w : World} {g t : Nat} {p : Int} {A : Option Addr} {n c : Nat} {xs : List Int} (h : Dr w g t p A n c xs) {a : Addr} (ha : g < a.block) (u : Value) : Dr (w.setCell a u) g t p A n c xs :=
  h.other (row := some a.block) ⟨rfl, rfl, rfl, by simp, fun k _ hk => heap_setCell_other w a k u (fun e => hk (by rw [e]))⟩ (fun b e => by injection e with e; omega)
theorem lit_at (l : List Int) (i : Int) (h0 : 0 ≤ i) (hi : i < l.length) : ∃ x, (l.map (Value.int .i64))[i.toNat]? = some (.int .i64 x) := by
  obtain ⟨k, rfl⟩ := Int.eq_ofNat_of_zero_le h0
  have : k < l.length := by omega
  exact ⟨l[k], by simp [this]⟩
def IntIs (v : Value) (_ : World) : Prop := ∃ x, v = .int .i64 x
/-- A word. -/
def WordIs (v : Value) (_ : World) : Prop := ∃ x, v = .int .i64 x ∧ 0 ≤ x ∧ x ≤ 4294967295
theorem words_get {l : List Value} {i : Nat} (h : i < l.length) (ha : ∀ v ∈ l, ∃ x, v = .int .i64 x ∧ 0 ≤ x ∧ x ≤ 4294967295) : ∃ x, l[i] = .int .i64 x ∧ 0 ≤ x ∧ x ≤ 4294967295 := ha _ (List.getElem_mem h)
theorem callB_of {num : Int} {ys : List Int} (h0 : 0 ≤ num) (h1 : num ≤ 4294967295) (hl : ys.length = 4) (ha : ∀ y ∈ ys, 0 ≤ y ∧ y ≤ 4294967295) : callB num ys = true := by
  simp only [callB, wordB, Bool.and_eq_true, decide_eq_true_eq, beq_iff_eq, List.all_eq_true]
  exact ⟨⟨⟨h0, h1⟩, hl⟩, ha⟩
theorem words_add {ys : List Int} {x : Int} (h : ∀ y ∈ ys, 0 ≤ y ∧ y ≤ 4294967295) (h0 : 0 ≤ x) (h1 : x ≤ 4294967295) : ∀ y ∈ ys ++ [x], 0 ≤ y ∧ y ≤ 4294967295 := by
  intro y hy
  rcases List.mem_append.1 hy with hy | hy
  · exact h y hy
  · rw [List.mem_singleton.1 hy]; exact ⟨h0, h1⟩
theorem dword_c (g : Nat) (p : Int) (A : Option Addr) (n c : Nat) (xs : List Int) (w : World) (h : Dr w g 56 p A n c xs) (hp : p ≤ 1099511627000) :
    Calls Tryd.prog 32 #[.pointer (some ⟨g, 0, none⟩)] w (RetDraw WordIs g 56 p 4 A n c xs w) := by
  have hlow := h.low
  have hgl := h.blk.lt
  have D0 := Lib.hid h
  clear h
  go_enter Tryd.func32, Tryd.ntmps32
  (go_wp2_with fail); (go_at_call 13; refine (pick_c g _ _ A n c xs _ D0.out (by omega)).mono ?_; rintro e w1 ⟨_, q1, rfl, ⟨x1, rfl, l1, u1⟩, d1, e1, f1, g1⟩; obtain ⟨gc1, gf1⟩ := grown_get g1; (try simp only [heap_drew, World.size_alloc, World.size_setCell] at gc1 gf1); have hs1 := g1.size; (try simp at hs1); have G1 := Lib.hid (gr_via (w := w) (by (repeat' (first | exact gr_refl _ _ | (with_reducible assumption) | exact Hid.out (by assumption) | refine gr_drew ?_ | refine gr_drewN ?_ _ | refine gr_alloc ?_ _ | refine gr_set ?_ ?_ _ | omega | (simp; omega)))) g1); clear g1; have D1 := Lib.hid d1; clear d1)
  (go_wp2_with fail); (go_at_call 13; refine (pick_c g _ _ A n c xs _ D1.out (by omega)).mono ?_; rintro e w2 ⟨_, q2, rfl, ⟨x2, rfl, l2, u2⟩, d2, e2, f2, g2⟩; obtain ⟨gc2, gf2⟩ := grown_get g2; (try simp only [heap_drew, World.size_alloc, World.size_setCell] at gc2 gf2); have hs2 := g2.size; (try simp at hs2); have G2 := Lib.hid (gr_via (w := w) (by (repeat' (first | exact gr_refl _ _ | (with_reducible assumption) | exact Hid.out (by assumption) | refine gr_drew ?_ | refine gr_drewN ?_ _ | refine gr_alloc ?_ _ | refine gr_set ?_ ?_ _ | omega | (simp; omega)))) g2); clear g2; have D2 := Lib.hid d2; clear d2)
  (go_wp2_with fail); (go_at_call 13; refine (pick_c g _ _ A n c xs _ D2.out (by omega)).mono ?_; rintro e w3 ⟨_, q3, rfl, ⟨x3, rfl, l3, u3⟩, d3, e3, f3, g3⟩; obtain ⟨gc3, gf3⟩ := grown_get g3; (try simp only [heap_drew, World.size_alloc, World.size_setCell] at gc3 gf3); have hs3 := g3.size; (try simp at hs3); have G3 := Lib.hid (gr_via (w := w) (by (repeat' (first | exact gr_refl _ _ | (with_reducible assumption) | exact Hid.out (by assumption) | refine gr_drew ?_ | refine gr_drewN ?_ _ | refine gr_alloc ?_ _ | refine gr_set ?_ ?_ _ | omega | (simp; omega)))) g3); clear g3; have D3 := Lib.hid d3; clear d3)
  have k3 := u3 (by omega)
  have k1 := u1 (by omega)
  have k2 := u2 (by omega)
  have n3 : w3.heap.size ≠ g := by omega
  (go_wp2_with fail); (go_at_call 13; refine (pick_c g _ _ A n c xs _ (D3.out.upto (by go_grown)) (by omega)).mono ?_; rintro e w4 ⟨_, q4, rfl, ⟨x4, rfl, l4, u4⟩, d4, e4, f4, g4⟩; obtain ⟨gc4, gf4⟩ := grown_get g4; (try simp only [heap_drew, World.size_alloc, World.size_setCell] at gc4 gf4); have hs4 := g4.size; (try simp at hs4); have G4 := Lib.hid (gr_via (w := w) (by (repeat' (first | exact gr_refl _ _ | (with_reducible assumption) | exact Hid.out (by assumption) | refine gr_drew ?_ | refine gr_drewN ?_ _ | refine gr_alloc ?_ _ | refine gr_set ?_ ?_ _ | omega | (simp; omega)))) g4); clear g4; have D4 := Lib.hid d4; clear d4)
  go_wp2
  go_returns
  refine ⟨_, q4, rfl, ?_, D4.out, by omega, by omega, G4.out⟩
  have := u4 (by omega)
  refine words_get (l := [.int .i64 x1, .int .i64 x2, .int .i64 (16 * x3), .int .i64 4294967295, .int .i64 4294967294, .int .i64 65535]) (i := x4.toNat) (by simp; omega) ?_
  intro v hv
  simp only [List.mem_cons, List.not_mem_nil, or_false] at hv
  rcases hv with rfl | rfl | rfl | rfl | rfl | rfl <;> exact ⟨_, rfl, by omega, by omega⟩
end Go.Proofs.YtmfienlceobfeaaDoor
