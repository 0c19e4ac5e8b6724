/- Parts of laws in one text. Conditions: each lemma's own. -/
import Derived.Test.YtmfienlceobfeaaDoorJ81b47507e6
import Derived.Test.YtmfienlceobfeaaDoorJ928e76897a
import Derived.Deep.CutBlock
import Derived.Test.YtmfienlceobfeaaDoorJbf91c1eed8
namespace Go.Proofs.YtmfienlceobfeaaDoor
set_option linter.unusedSimpArgs false
open Go.RowKit
set_option linter.unusedVariables false
set_option linter.unnecessarySimpa false
theorem own_of_blk {W : World} {g e base n : Nat} {cs : List Value} (h : Blk W g e cs) (hB : base ≤ g) (hl : cs.length = n) (hn : n ≤ maxLen) : W.ownsRow base e 1 (.slice (some ⟨g, 0, none⟩) n n) n cs :=
  ⟨by omega, .inr ⟨g, n, cs.toArray, rfl, hB, h, Nat.le_refl _, hn, by simp [hl], by simp [← hl]⟩⟩
theorem made3 : madeCells #[Value.int .i64 0] 3 = #[.int .i64 0, .int .i64 0, .int .i64 0] := by kernel_rfl
theorem Blk.at_new (w : World) (t g : Nat) (cs : List Value) (hg : g = w.heap.size) : Blk (w.alloc (.cells cs.toArray t)) g t cs := hg ▸ Blk.new w t cs
theorem gate_cells (w : World) (t g : Nat) (s : ByteArray) (hg : g = w.heap.size) : ∀ j u, (kgate s 0)[j]? = some u → (w.alloc (.cells #[.string s, .string ByteArray.empty, .string ByteArray.empty, .bool true, .string ByteArray.empty, .string ByteArray.empty] t)).cell? ((⟨g, 0, none⟩ : Addr).add j) = some u :=
  fun j u hu => by rw [add_zero_block]; exact (Blk.at_new w t g (kgate s 0) hg).cell hu
end Go.Proofs.YtmfienlceobfeaaDoor
namespace Go.Proofs.YtmfienlceobfeaaDoor
set_option linter.unusedSimpArgs false
open Go.RowKit
set_option linter.unusedVariables false
set_option linter.unnecessarySimpa false
theorem Ow.kept' {w w' : World} {B n b off : Nat} {xs : List Int} {row : Option Nat} (h : Ow w B (some ⟨b, off, none⟩) n xs) (k : w.grownBy w' row) (hr : row ≠ some b) : Ow w' B (some ⟨b, off, none⟩) n xs :=
  ⟨h.1, fun hn => by
    obtain ⟨b', off', e, hB, hlt, hc⟩ := h.2 hn
    injection e with e; injection e with e1 e2; subst e1 e2
    have hb : w'.heap[b]? = w.heap[b]? := k.block b hlt (fun e => hr e.symm)
    exact ⟨b, off, rfl, hB, Nat.lt_of_lt_of_le hlt k.size, fun j x hx => ⟨(World.cell?_of_block (w := w) (a := ⟨b, off + j, none⟩) hb).trans (hc j x hx).1, (World.frozen?_of_block (w := w) (a := ⟨b, off + j, none⟩) hb).trans (hc j x hx).2⟩⟩⟩
theorem Ow.far' {w : World} {B n b off : Nat} {xs : List Int} (h : Ow w B (some ⟨b, off, none⟩) n xs) {p : Addr} (hp : p.block ≠ b) (u : Value) : Ow (w.setCell p u) B (some ⟨b, off, none⟩) n xs :=
  h.kept' (row := some p.block) ⟨rfl, rfl, rfl, by simp, fun k _ hk => heap_setCell_other w p k u (fun e => hk (by rw [e]))⟩ (by simpa using hp)
theorem Ow.setCells' {w : World} {B n b off : Nat} {xs : List Int} (h : Ow w B (some ⟨b, off, none⟩) n xs) (g o : Nat) (hg : g ≠ b) (cs : List Value) : Ow (setCells w g o cs) B (some ⟨b, off, none⟩) n xs := by
  induction cs generalizing w o with
  | nil => exact h
  | cons u cs ih => exact ih (h.far' (p := ⟨g, o, none⟩) hg u) (o + 1)
theorem Ow.tail {w : World} {B n b off : Nat} {xs : List Int} (h : Ow w B (some ⟨b, off, none⟩) (n + 1) xs) : Ow w B (some ⟨b, off + 1, none⟩) n (xs.drop 1) :=
  ⟨by simp [h.1], fun _ => by
    obtain ⟨b', off', e, hB, hlt, hc⟩ := h.2 (by omega)
    injection e with e; injection e with e1 e2; subst e1 e2
    exact ⟨b, off + 1, rfl, hB, hlt, fun j x hx => by
      have := hc (1 + j) x (by rw [← hx, List.getElem?_drop])
      rw [show off + (1 + j) = off + 1 + j from by omega] at this
      exact this⟩⟩
theorem Ow.put {w : World} {B n b off : Nat} {xs : List Int} (h : Ow w B (some ⟨b, off, none⟩) n xs) (j : Nat) (y : Int) : Ow (w.setCell ⟨b, off + j, none⟩ (.int .i64 y)) B (some ⟨b, off, none⟩) n (xs.set j y) :=
  ⟨by simp [h.1], fun hn => by
    obtain ⟨b', off', e, hB, hlt, hc⟩ := h.2 hn
    injection e with e; injection e with e1 e2; subst e1 e2
    refine ⟨b, off, rfl, hB, by simpa using hlt, fun i x hx => ?_⟩
    rw [List.getElem?_set] at hx
    split at hx
    · rename_i e
      subst e
      split at hx
      · rename_i hj
        injection hx with hx
        subst hx
        obtain ⟨c1, c2⟩ := hc j _ (List.getElem?_eq_getElem hj)
        exact ⟨World.cell?_setCell_same _ _ _ c1, by simpa using c2⟩
      · cases hx
    · rename_i e
      obtain ⟨c1, c2⟩ := hc i x hx
      exact ⟨(World.cell?_setCell_other w _ _ _ (by simpa using e)).trans c1, by simpa using c2⟩⟩
theorem Ow.cellAt {w : World} {B n b off : Nat} {xs : List Int} (h : Ow w B (some ⟨b, off, none⟩) n xs) (j : Nat) (hj : j < n) : (∃ x, w.cell? ⟨b, off + j, none⟩ = some (.int .i64 x)) ∧ w.frozen? ⟨b, off + j, none⟩ = false := by
  obtain ⟨b', off', e, _, _, hc⟩ := h.2 (by omega)
  injection e with e; injection e with e1 e2; subst e1 e2
  obtain ⟨x, hx⟩ := some_at h.1 hj
  exact ⟨⟨x, (hc j x hx).1⟩, (hc j x hx).2⟩
theorem Ow.cellAt0 {w : World} {B n b : Nat} {xs : List Int} (h : Ow w B (some ⟨b, 0, none⟩) n xs) (j : Nat) (hj : j < n) : (∃ x, w.cell? ⟨b, j, none⟩ = some (.int .i64 x)) ∧ w.frozen? ⟨b, j, none⟩ = false := by
  have := h.cellAt j hj
  rwa [Nat.zero_add] at this
theorem lit_get {l : List Int} {i : Nat} {y : Int} (h : (l.map (Value.int .i64))[i]? = some (.int .i64 y)) : ∀ hi : i < (l.map (Value.int .i64)).length, (l.map (Value.int .i64))[i] = .int .i64 y := fun hi => by
  rw [List.getElem?_eq_getElem hi] at h
  injection h
theorem Ow.put0 {w : World} {B n b : Nat} {xs : List Int} (h : Ow w B (some ⟨b, 0, none⟩) n xs) (j : Nat) (y : Int) : Ow (w.setCell ⟨b, j, none⟩ (.int .i64 y)) B (some ⟨b, 0, none⟩) n (xs.set j y) := by
  have := h.put j y
  rwa [Nat.zero_add] at this
theorem Blk.upto2 {w w' : World} {g t : Nat} {cs : List Value} (h : Blk w g t cs) (hb : Below w.heap.size w w') : Blk w' g t cs := h.up hb
end Go.Proofs.YtmfienlceobfeaaDoor
