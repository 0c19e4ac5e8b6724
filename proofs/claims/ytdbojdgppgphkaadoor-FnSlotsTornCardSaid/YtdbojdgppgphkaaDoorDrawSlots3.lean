/- Drawn slots and a text. Conditions: each contract's own. -/
import Derived.Test.YtdbojdgppgphkaaDoorDrawSlots2
namespace Go.Proofs.YtdbojdgppgphkaaDoor
set_option linter.unusedSimpArgs false
open Go.RowKit
set_option linter.unusedVariables false
set_option linter.unnecessarySimpa false
set_option maxRecDepth 20000
def txts3 : List ByteArray := [⟨#[]⟩, ⟨#[98]⟩, ⟨#[97, 32, 116, 101, 120, 116]⟩]
theorem txts3_size : ∀ s ∈ txts3, s.size ≤ 6 := by decide
set_option maxHeartbeats 1600000 in
set_option maxRecDepth 100000 in
theorem drawSlotsWrite_c (A : Option Addr) (n c : Nat) (xs : List Int) (w : World) (hr : Rd w w.heap.size 1 A n (u8s xs)) (hx : ∀ x ∈ xs, 0 ≤ x ∧ x ≤ 255) (hc : n ≤ c) (hc2 : c ≤ 9223372036854775807) :
    Calls Tryd.prog 41 #[.slice A n c] w (fun e w' => ∃ SA SB S : ByteArray, e = .returned (.tuple #[.agg #[.string SA, .string SB], .string S]) ∧ SA.size ≤ 1000 ∧ SB.size ≤ 1000 ∧ S.size ≤ 6 ∧ Below w.heap.size w w') := by
  have HX := Lib.hid hx
  have hA := Lib.hid (Blk.new w 53 [.string ⟨#[]⟩, .string ⟨#[]⟩])
  have HO := Lib.hid (fun W h => l1Open_c A n c xs W h hx hc hc2)
  have HR := Lib.hid hr
  clear hr hx
  go_enter Tryd.func41, Tryd.ntmps41
  go_wp2_with fail
  refine (HO.out _ ((HR.out.below (by go_grown)).more (by simp))).mono ?_
  rintro e w1 ⟨n1, c1, xs1, rfl, d1, b1, z1⟩
  have A1 := Lib.hid (hA.out.up b1)
  simp only [World.size_alloc] at d1 b1 z1
  have B1 : Hid (Below w.heap.size w w1) := Lib.hid (Below.trans (show Below w.heap.size w _ by go_grown) (b1.mono (by omega)))
  have D1 := Lib.hid d1
  clear b1 d1 hA
  go_wp2_with fail
  refine (l11Slots_c (w.heap.size + 1) _ A n1 c1 xs1 _ D1.out (by omega)).mono ?_
  rintro e w2 ⟨_, q2, rfl, ⟨SA, SB, rfl, hSA, hSB⟩, d2, e2, f2, g2⟩
  have A2 := Lib.hid (A1.out.other g2 (by simp))
  have D2 := Lib.hid d2
  have G2 := Lib.hid g2
  have hs2 := g2.size
  clear d2 g2
  go_wp2_with fail
  go_at_call 50
  refine (of_c (w.heap.size + 1) _ A n1 c1 xs1 w2.heap.size 6 txts3 _ (D2.out.upto (by go_grown)) (by omega) rfl (Blk.new w2 9 (strs txts3)) (by omega) txts3_size).mono ?_
  rintro e w3 ⟨_, q3, rfl, ⟨S, rfl, hS⟩, d3, e3, f3, g3⟩
  have A3 := Lib.hid ((A2.out.up (by go_grown)).other g3 (by simp))
  have G3 := Lib.hid ((gr_alloc G2.out _).trans g3)
  have a0 := A3.out.cell (i := 0) rfl
  have a1 := A3.out.cell (i := 1) rfl
  have af := A3.out.free
  clear d3 g3
  go_wp2
  refine bodyPost_ret (v := .tuple #[.agg #[.string SA, .string SB], .string S]) (by simp [results, Tryd.results41, go_sem, a0, a1]) rfl ?_
  go_light
  exact ⟨SA, SB, S, rfl, hSA, hSB, hS, ((B1.out.trans (gr_below G3.out (by omega) (by omega))).setCell (by simp) _).setCell (by simp) _⟩
end Go.Proofs.YtdbojdgppgphkaaDoor
