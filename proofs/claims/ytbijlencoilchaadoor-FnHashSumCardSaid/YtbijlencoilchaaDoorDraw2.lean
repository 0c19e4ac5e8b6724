/- Drawn words, calls and tests. Conditions: each contract's own. -/
import Derived.Test.YtbijlencoilchaaDoorDraw
import Derived.Test.YtbijlencoilchaaDoorCall
import Derived.Deep.RegionHeld3
import Derived.Deep.AppendLies
import Derived.Deep.RegionLaw
namespace Go.Proofs.YtbijlencoilchaaDoor
open Go.RowKit
set_option linter.unusedVariables false
theorem ints_get {l : List Value} {i : Nat} (h : i < l.length) (ha : ∀ v ∈ l, ∃ x, v = .int .i64 x) : ∃ x, l[i] = .int .i64 x := ha _ (List.getElem_mem h)
theorem gr_grown {a w w' : World} {g : Nat} {row : Option Nat} (h : a.grownBy w (some g)) (k : w.grownBy w' row) (hr : ∀ b, row = some b → b = g ∨ a.heap.size ≤ b) : a.grownBy w' (some g) :=
  ⟨k.os.trans h.os, k.tape.trans h.tape, k.output.trans h.output, Nat.le_trans h.size k.size, fun i hi hne => (k.block i (Nat.lt_of_lt_of_le hi h.size) (fun e => by
    rcases hr i e.symm with r | r
    · exact hne (by rw [r])
    · omega)).trans (h.block i hi hne)⟩
/-- A reader stays where another block is written. -/
theorem Dr.other {w w' : World} {g t : Nat} {p : Int} {A : Option Addr} {n c : Nat} {xs : List Int} {row : Option Nat} (h : Dr w g t p A n c xs) (k : w.grownBy w' row) (hr : ∀ b, row = some b → g < b) : Dr w' g t p A n c xs :=
  ⟨(k.block g h.blk.lt (fun e => by have := hr g e.symm; omega)).trans h.blk, ⟨h.rd.1, fun hn => by
    obtain ⟨b, off, e, hlt, hc⟩ := h.rd.2 hn
    exact ⟨b, off, e, hlt, fun j u hu => (World.cell?_of_block (w := w) (a := ⟨b, off + j, none⟩) (k.block b (Nat.lt_trans hlt h.blk.lt) (fun e => by have := hr b e.symm; omega))).trans (hc j u hu)⟩⟩, h.byte, h.size, h.low⟩
theorem Blk.other {w w' : World} {g t : Nat} {cs : List Value} {row : Option Nat} (h : Blk w g t cs) (k : w.grownBy w' row) (hr : row ≠ some g) : Blk w' g t cs := (k.block g h.lt (fun e => hr e.symm)).trans h
theorem Dr.far {w : World} {g t : Nat} {p : Int} {A : Option Addr} {n c : Nat} {xs : List Int} (h : Dr w g t p A n c xs) {a : Addr} (ha : g < a.block) (u : Value) : Dr (w.setCell a u) g t p A n c xs :=
  h.other (row := some a.block) ⟨rfl, rfl, rfl, by simp, fun k _ hk => heap_setCell_other w a k u (fun e => hk (by rw [e]))⟩ (fun b e => by injection e with e; omega)
