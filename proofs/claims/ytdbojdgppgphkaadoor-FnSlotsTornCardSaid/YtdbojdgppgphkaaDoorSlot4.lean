/- Two slots with a lock: written, torn. Conditions: each contract's own. -/
import Derived.Test.YtdbojdgppgphkaaDoorSlot3
import Derived.Test.YtdbojdgppgphkaaDoorBld
import Derived.Test.YtdbojdgppgphkaaDoorText2
import Derived.Deep.RegionHeld3
namespace Go.Proofs.YtdbojdgppgphkaaDoor
set_option linter.unusedSimpArgs false
open Go.RowKit Go.MuLone
set_option linter.unusedVariables false
set_option linter.unnecessarySimpa false
set_option maxRecDepth 20000
/-- What a slot of a text and a number is. -/
def slotW (n : Int) (t : List UInt8) : List UInt8 := 43 :: (dec n ++ 58 :: t)
/-- Slots with a text written into them; as they were, if the number would be too great. -/
def writeR (a b t : List UInt8) : List UInt8 × List UInt8 × Bool :=
  if 9999 ≤ (lastR a b).2.1 then (a, b, false) else if (lastR a b).2.2 = 0 then (slotW ((lastR a b).2.1 + 1) t, b, true) else (a, slotW ((lastR a b).2.1 + 1) t, true)
theorem lastR_pos (a b : List UInt8) : 0 ≤ (lastR a b).2.1 ∧ (lastR a b).2.1 ≤ 9999 ∧ ((lastR a b).2.2 = 0 ∨ (lastR a b).2.2 = 1) := by
  have := slotR_pos a
  have := slotR_pos b
  unfold lastR
  split
  · refine ⟨?_, ?_, .inl rfl⟩ <;> (simp only; omega)
  · split
    · refine ⟨?_, ?_, .inr rfl⟩ <;> (simp only; omega)
    · simp
/-- The runs of the sums of texts of which a slot is made. -/
theorem slot_runs {P : Program} {n : Int} (h0 : 0 ≤ n) (h1 : n ≤ 10000) (t : List UInt8) (ht : t.length ≤ 4611686018427387903) : ∃ D X1 X2 R T : ByteArray, D = str (dec n) ∧ R = str (slotW n t) ∧ T = str t ∧
    (∀ W, (Op.stringOp .add ⟨#[43]⟩ D).run P W = .ok (.string X1) W) ∧ (∀ W, (Op.stringOp .add X1 ⟨#[58]⟩).run P W = .ok (.string X2) W) ∧ (∀ W, (Op.stringOp .add X2 T).run P W = .ok (.string R) W) := by
  have hd := dec_len (n := n) (by omega)
  have e1 : (⟨#[43]⟩ : ByteArray) = str [43] := rfl
  have e2 : (⟨#[58]⟩ : ByteArray) = str [58] := rfl
  refine ⟨_, str (43 :: dec n), str (43 :: dec n ++ [58]), _, _, rfl, rfl, rfl, fun W => ?_, fun W => ?_, fun W => ?_⟩
  · rw [e1]; exact cat_run (by simp) (by simp; omega) W
  · rw [e2]; exact cat_run (by simp) (by simp; omega) W
  · exact cat_run (by simp [slotW]) (by simp; omega) W
theorem gr_drew' {w w' : World} {row : Option Nat} (h : w.grownBy w' row) : w.grownBy w'.drew row := ⟨h.os, h.tape, h.output, h.size, h.block⟩
theorem gr_new {w w' : World} {row : Option Nat} (h : w.grownBy w' row) (o : Nat) (u : Value) : w.grownBy (w'.setCell ⟨w.heap.size, o, none⟩ u) row :=
  ⟨h.os, h.tape, h.output, by simpa using h.size, fun i hi hne => (heap_setCell_other w' ⟨w.heap.size, o, none⟩ i u (fun e => by simp at e; omega)).trans (h.block i hi hne)⟩
set_option maxHeartbeats 1600000 in
set_option maxRecDepth 100000 in
theorem slots_c (g : Nat) (a b : List UInt8) (w : World) (h : SP w g 165 a b) :
    Calls Tryd.prog 83 #[.pointer (some ⟨g, 0, none⟩)] w (fun e w' => e = .returned (.agg #[.string (str a), .string (str b)]) ∧ SP w' g 165 a b ∧ w.grownBy w' (some g)) := by
  have h0 := h.cell (i := 0) rfl
  have f0 := h.free 0
  have hlt := h.lt
  obtain ⟨W0, hW0⟩ : ∃ W0, W0 = w.alloc (.cells #[.string ⟨#[]⟩, .string ⟨#[]⟩] 53) := ⟨_, rfl⟩
  unfold SP at h ⊢
  generalize str a = A at *
  generalize str b = B at *
  have X0 := Lib.hid (show Blk W0 g 165 [.int .i32 0, .int .u32 0, .string A, .string B] from hW0 ▸ h.alloc _)
  have x00 := X0.out.cell (i := 0) rfl
  have xf0 := X0.out.free 0
  have X1 := Lib.hid (X0.out.set_ 0 (.int .i32 1))
  have x12 := X1.out.cell (i := 2) rfl
  have x13 := X1.out.cell (i := 3) rfl
  have G0 := Lib.hid (show w.grownBy W0 (some g) from hW0 ▸ World.grownBy_alloc w _ _)
  have R0 := Lib.hid (show Blk W0 w.heap.size 53 [.string ⟨#[]⟩, .string ⟨#[]⟩] from hW0 ▸ Blk.new w 53 [.string ⟨#[]⟩, .string ⟨#[]⟩])
  have hne : w.heap.size ≠ g := by omega
  have hne' : g ≠ w.heap.size := by omega
  have R1 := Lib.hid (R0.out.far (p := ⟨g, 0, none⟩) hne (.int .i32 1))
  have r10 := R1.out.cell (i := 0) rfl
  have r11 := R1.out.cell (i := 1) rfl
  have rf := R1.out.free
  have HW0 := Lib.hid hW0
  clear h hW0
  go_enter_defers Tryd.func83, Tryd.ntmps83
  go_wp2_with fail
  rw [← HW0.out]
  refine (lock_free Tryd.muLib ⟨g, 0, none⟩ _ x00 xf0).mono ?_
  rintro e w' ⟨rfl, rfl⟩
  have G1 := Lib.hid (grg_set G0.out 0 (.int .i32 1))
  have hg1 : g < (W0.setCell ⟨g, 0, none⟩ (.int .i32 1)).heap.size := X1.out.lt
  obtain ⟨W1, hW1⟩ : ∃ W1, W1 = W0.setCell ⟨g, 0, none⟩ (.int .i32 1) := ⟨_, rfl⟩
  rw [← hW1] at X1 x12 x13 R1 r10 r11 rf G1 hg1 ⊢
  have HW1 := Lib.hid hW1
  clear hW1 x00 xf0
  go_wp2
  go_region
  go_wp2
  all_goals
    refine leaves_cons (f := 121) (args := #[.pointer (some ⟨g, 0, none⟩)]) (by simp) (by simp [go_sem]) ?_
    have XS := Lib.hid (((((X1.out.far (p := ⟨w.heap.size, 0, none⟩) hne' (.string ⟨#[]⟩)).far (p := ⟨w.heap.size, 1, none⟩) hne' (.string ⟨#[]⟩)).far (p := ⟨w.heap.size, 0, none⟩) hne' (.string A)).far (p := ⟨w.heap.size, 1, none⟩) hne' (.string B)).drew)
    have RS := Lib.hid (((((R1.out.set_ 0 (.string ⟨#[]⟩)).set_ 1 (.string ⟨#[]⟩)).set_ 0 (.string A)).set_ 1 (.string B)).drew)
    have hw : ∀ i, i < w.heap.size → (⟨w.heap.size, 0, none⟩ : Addr).block ≠ i := fun i hi e => by simp at e; omega
    have GS : Hid (w.grownBy (((((W1.setCell ⟨w.heap.size, 0, none⟩ (.string ⟨#[]⟩)).setCell ⟨w.heap.size, 1, none⟩ (.string ⟨#[]⟩)).setCell ⟨w.heap.size, 0, none⟩ (.string A)).setCell ⟨w.heap.size, 1, none⟩ (.string B)).drew) (some g)) := Lib.hid (gr_drew' (gr_new (gr_new (gr_new (gr_new G1.out 0 _) 1 _) 0 _) 1 _))
    generalize (((((W1.setCell ⟨w.heap.size, 0, none⟩ (.string ⟨#[]⟩)).setCell ⟨w.heap.size, 1, none⟩ (.string ⟨#[]⟩)).setCell ⟨w.heap.size, 0, none⟩ (.string A)).setCell ⟨w.heap.size, 1, none⟩ (.string B)).drew) = WS at *
    refine (unlock_deferred Tryd.muLib ⟨g, 0, none⟩ .returning _ (XS.out.cell (i := 0) rfl) (XS.out.free 0)).mono ?_
    rintro e u' w'' ⟨rfl, rfl, rfl⟩
    have RZ := Lib.hid (RS.out.far (p := ⟨g, 0, none⟩) hne (.int .i32 0))
    have z0 := RZ.out.cell (i := 0) rfl
    have z1 := RZ.out.cell (i := 1) rfl
    refine ⟨.agg #[.string A, .string B], by simp [results, Tryd.results83, go_sem, z0, z1], rfl, XS.out.set_ 0 (.int .i32 0), grg_set GS.out 0 (.int .i32 0)⟩
end Go.Proofs.YtdbojdgppgphkaaDoor
