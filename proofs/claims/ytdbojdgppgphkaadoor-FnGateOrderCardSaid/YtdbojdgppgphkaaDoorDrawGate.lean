/- The drawn key, number and text of an order. Conditions: each contract's own. -/
import Derived.Test.YtdbojdgppgphkaaDoorDrawHash
namespace Go.Proofs.YtdbojdgppgphkaaDoor
set_option linter.unusedSimpArgs false
open Go.RowKit
set_option linter.unusedVariables false
set_option linter.unnecessarySimpa false
def txtsK : List ByteArray := [⟨#[107, 101, 121]⟩, ⟨#[]⟩]
theorem txtsK_size : ∀ s ∈ txtsK, s.size ≤ 3 := by decide
def txtsP : List ByteArray := [⟨#[]⟩, ⟨#[97, 32, 112, 97, 99, 107]⟩]
theorem txtsP_size : ∀ s ∈ txtsP, s.size ≤ 6 := by decide
theorem of2_c (g : Nat) (p : Int) (A : Option Addr) (n c : Nat) (xs : List Int) (b K : Nat) (ss : List ByteArray) (w : World) (h : Dr w g 129 p A n c xs) (hp : p ≤ 1099511627000) (hl : ss.length = 2) (hb : Blk w b 9 (strs ss)) (hg : b ≠ g) (hK : ∀ s ∈ ss, s.size ≤ K) :
    Calls Tryd.prog 50 #[.pointer (some ⟨g, 0, none⟩), .slice (some ⟨b, 0, none⟩) 2 2] w (RetDraw (TextIs K) g 129 p 1 A n c xs w) := by
  have HB := Lib.hid hb
  have HK := Lib.hid hK
  have D0 := Lib.hid h
  have HL := Lib.hid hl
  clear hb hK h hl
  go_enter Tryd.func50, Tryd.ntmps50
  (go_wp2_with fail); (go_at_call 51; refine (pick_c g _ _ A n c xs _ (D0.out.upto (by go_grown)) (by omega)).mono ?_; rintro e w1 ⟨_, q1, rfl, ⟨x1, rfl, l1, u1⟩, d1, e1, f1, g1⟩; have B1 := Lib.hid (HB.out.other g1 (by simp; omega)); have D1 := Lib.hid d1; have G1 := Lib.hid g1; clear d1 g1)
  have v1 := u1 (by omega)
  obtain ⟨y, hy, hm⟩ := strs_in (l := ss) l1 (by rw [HL.out]; omega)
  have cy := B1.out.cell hy
  have HM := Lib.hid (HK.out y hm)
  clear hy hm u1
  go_wp2
  go_returns
  exact ⟨_, q1, rfl, ⟨y, rfl, HM.out⟩, D1.out, by omega, by omega, G1.out⟩
set_option maxHeartbeats 800000 in
theorem drawGateOrder_c (A : Option Addr) (n c : Nat) (xs : List Int) (w : World) (hr : Rd w w.heap.size 1 A n (u8s xs)) (hx : ∀ x ∈ xs, 0 ≤ x ∧ x ≤ 255) (hc : n ≤ c) (hc2 : c ≤ 9223372036854775807) :
    Calls Tryd.prog 15 #[.slice A n c] w (fun e w' => ∃ (k : ByteArray) (x : Int) (s : ByteArray), e = .returned (.tuple #[.string k, .int .i64 x, .string s]) ∧ k.size ≤ 3 ∧ -1 ≤ x ∧ x ≤ 7 ∧ s.size ≤ 6 ∧ Below w.heap.size w w') := by
  have HR := Lib.hid hr
  have HX := Lib.hid hx
  clear hr hx
  go_enter Tryd.func15, Tryd.ntmps15
  (go_wp2_with fail); (go_at_call 49; refine (l1Open_c A n c xs _ HR.out HX.out hc hc2).mono ?_; rintro e w1 ⟨n1, c1, xs1, rfl, d1, b1, z1⟩; have D1 := Lib.hid d1; have B1 := Lib.hid b1; clear d1 b1)
  have hS1 : Hid (Blk (w1.alloc (.cells #[.string ⟨#[107, 101, 121]⟩, .string ⟨#[]⟩] 9)) w1.heap.size 9 (strs txtsK)) := Lib.hid (Blk.new w1 9 (strs txtsK))
  go_wp2_with fail
  go_at_call 50
  refine (of2_c w.heap.size _ A n1 c1 xs1 w1.heap.size 3 txtsK _ (D1.out.upto (by go_grown)) (by omega) rfl hS1.out (by omega) txtsK_size).mono ?_
  rintro e w2 ⟨_, q2, rfl, ⟨s2, rfl, hs2⟩, d2, e2, f2, g2⟩
  have D2 := Lib.hid d2
  have G2 := Lib.hid (gr_via (gr_alloc (gr_refl w1 w.heap.size) _) g2)
  clear d2 g2 hS1
  (go_wp2_with fail); (go_at_call 51; refine (pick_c w.heap.size _ _ A n1 c1 xs1 _ D2.out (by omega)).mono ?_; rintro e w3 ⟨_, q3, rfl, ⟨x3, rfl, l3, u3⟩, d3, e3, f3, g3⟩; have v3 := u3 (by omega); have D3 := Lib.hid d3; have G3 := Lib.hid (gr_via G2.out g3); clear d3 g3 u3)
  have hS3 : Hid (Blk (w3.alloc (.cells #[.string ⟨#[]⟩, .string ⟨#[97, 32, 112, 97, 99, 107]⟩] 9)) w3.heap.size 9 (strs txtsP)) := Lib.hid (Blk.new w3 9 (strs txtsP))
  have hz3 := G3.out.size
  have hd3 := D3.out.blk.lt
  (go_wp2_with fail); (go_at_call 50; refine (of2_c w.heap.size _ A n1 c1 xs1 w3.heap.size 6 txtsP _ (D3.out.upto (by go_grown)) (by omega) rfl hS3.out (by omega) txtsP_size).mono ?_; rintro e w4 ⟨_, q4, rfl, ⟨s4, rfl, hs4⟩, d4, e4, f4, g4⟩; have G4 := Lib.hid (gr_via (gr_alloc G3.out _) g4); clear d4 g4)
  go_wp2
  go_returns
  exact ⟨s2, x3 - 1, s4, rfl, hs2, by omega, by omega, hs4, B1.out.trans (gr_below G4.out (Nat.le_refl _) B1.out.size)⟩
end Go.Proofs.YtdbojdgppgphkaaDoor
