/- Drawn slots, a text, and how many bytes of it. Conditions: each contract's own. -/
import Derived.Test.YtdbojdgppgphkaaDoorDrawSlots3
namespace Go.Proofs.YtdbojdgppgphkaaDoor
set_option linter.unusedSimpArgs false
open Go.RowKit
set_option linter.unusedVariables false
set_option linter.unnecessarySimpa false
set_option maxRecDepth 20000
theorem lit_get6 {l : List Value} {i : Nat} {v : Value} (h : l[i]? = some v) : ∀ hi : i < l.length, l[i]'hi = v := fun hi => by rw [List.getElem?_eq_getElem hi] at h; exact Option.some.inj h
theorem six_in {x y : Int} (h0 : 0 ≤ x) (h1 : x < 80) (h : y ∈ [x, -1, 1000, 64, 65, 66]) : -1 ≤ y ∧ y ≤ 1000 := by
  simp only [List.mem_cons, List.not_mem_nil, or_false] at h
  rcases h with rfl | rfl | rfl | rfl | rfl | rfl <;> omega
set_option maxHeartbeats 3200000 in
set_option maxRecDepth 100000 in
theorem drawSlotsTorn_c (A : Option Addr) (n c : Nat) (xs : List Int) (w : World) (hr : Rd w w.heap.size 1 A n (u8s xs)) (hx : ∀ x ∈ xs, 0 ≤ x ∧ x ≤ 255) (hc : n ≤ c) (hc2 : c ≤ 9223372036854775807) :
    Calls Tryd.prog 44 #[.slice A n c] w (fun e w' => ∃ (SA SB S : ByteArray) (k : Int), e = .returned (.tuple #[.agg #[.string SA, .string SB], .string S, .int .i64 k]) ∧ SA.size ≤ 1000 ∧ SB.size ≤ 1000 ∧ S.size ≤ 6 ∧ -1 ≤ k ∧ k ≤ 1000 ∧ Below w.heap.size w w') := by
  have HX := Lib.hid hx
  have hA := Lib.hid (Blk.new w 53 [.string ⟨#[]⟩, .string ⟨#[]⟩])
  have HO := Lib.hid (fun W h => l1Open_c A n c xs W h hx hc hc2)
  have HR := Lib.hid hr
  clear hr hx
  go_enter Tryd.func44, Tryd.ntmps44
  go_wp2_with fail
  refine (HO.out _ ((HR.out.below (by go_grown)).more (by simp))).mono ?_
  rintro e w1 ⟨n1, c1, xs1, rfl, d1, b1, z1⟩
  have A1 := Lib.hid (hA.out.up b1)
  simp only [World.size_alloc] at d1 b1 z1
  have B1 : Hid (Below w.heap.size w w1) := Lib.hid (Below.trans (show Below w.heap.size w _ by go_grown) (b1.mono (by omega)))
  have D1 := Lib.hid d1
  have hz1 : w.heap.size < w1.heap.size := by omega
  clear b1 d1 hA
  go_wp2_with fail
  go_region_law (first
    | (go_simp; (go_at_call 86; refine (l11Slots_c (w.heap.size + 1) _ A n1 c1 xs1 _ (D1.out.upto (by go_grown)) (by omega)).mono ?_; rintro e w2 ⟨_, q2, rfl, ⟨SA, SB, rfl, hSA, hSB⟩, d2, e2, f2, g2⟩; have A2 := Lib.hid ((A1.out.up (by go_grown)).other g2 (by simp)); (try have S2 := Lib.hid ((Blk.new w1 9 (strs txts3)).drew.other g2 (by simp; omega))); have hs2 := g2.size; (try simp at hs2); have zz2 : w.heap.size + 1 < w2.heap.size := (by omega); have zw2 : w.heap.size < w2.heap.size := (by omega); have G2 := Lib.hid (gr_via (w := w1) (by (repeat' (first | exact gr_refl _ _ | (with_reducible assumption) | exact Hid.out (by assumption) | refine gr_drew ?_ | refine gr_drewN ?_ _ | refine gr_alloc ?_ _ | refine gr_set ?_ ?_ _ | omega | (simp; omega)))) g2); have D2 := Lib.hid d2; clear d2 g2))
    | (go_simp; (go_at_call 50; refine (of_c (w.heap.size + 1) _ A n1 c1 xs1 _ 6 txts3 _ (D2.out.upto (by go_grown)) (by omega) rfl (by first | exact S2.out | exact Blk.new _ 9 (strs txts3) | exact (Blk.new _ 9 (strs txts3)).drew) (by simp <;> omega) txts3_size).mono ?_; rintro e w3 ⟨_, q3, rfl, ⟨S, rfl, hS⟩, d3, e3, f3, g3⟩; have A3 := Lib.hid ((A2.out.up (by go_grown)).other g3 (by simp)); have hs3 := g3.size; (try simp at hs3); have zz3 : w.heap.size + 1 < w3.heap.size := (by omega); have zw3 : w.heap.size < w3.heap.size := (by omega); have G3 := Lib.hid (gr_via (w := w1) (by (repeat' (first | exact gr_refl _ _ | (with_reducible assumption) | exact Hid.out (by assumption) | refine gr_drew ?_ | refine gr_drewN ?_ _ | refine gr_alloc ?_ _ | refine gr_set ?_ ?_ _ | omega | (simp; omega)))) g3); have D3 := Lib.hid d3; clear d3 g3))
    | (go_simp; (go_at_call_of 51 (Value.int IntKind.i64 80); refine (pick_c (w.heap.size + 1) _ _ A n1 c1 xs1 _ (D3.out.upto (by go_grown)) (by omega)).mono ?_; rintro e w4 ⟨_, q4, rfl, ⟨x4, rfl, l4, u4⟩, d4, e4, f4, g4⟩; have v4 := u4 (by omega); have A4 := Lib.hid ((A3.out.up (by go_grown)).other g4 (by simp)); have hs4 := g4.size; (try simp at hs4); have zz4 : w.heap.size + 1 < w4.heap.size := (by omega); have zw4 : w.heap.size < w4.heap.size := (by omega); have G4 := Lib.hid (gr_via (w := w1) (by (repeat' (first | exact gr_refl _ _ | (with_reducible assumption) | exact Hid.out (by assumption) | refine gr_drew ?_ | refine gr_drewN ?_ _ | refine gr_alloc ?_ _ | refine gr_set ?_ ?_ _ | omega | (simp; omega)))) g4); have D4 := Lib.hid d4; clear d4 g4 u4))
    | (go_simp; (go_at_call_of 51 (Value.int IntKind.i64 6); refine (pick_c (w.heap.size + 1) _ _ A n1 c1 xs1 _ (D4.out.upto (by go_grown)) (by omega)).mono ?_; rintro e w5 ⟨_, q5, rfl, ⟨x5, rfl, l5, u5⟩, d5, e5, f5, g5⟩; have v5 := u5 (by omega); have A5 := Lib.hid ((A4.out.up (by go_grown)).other g5 (by simp)); obtain ⟨y, hy, hym⟩ := ints_in (l := [x4, -1, 1000, 64, 65, 66]) l5 (by simp; omega); have hyb := six_in l4 v4 hym; have hget : ∀ hi : x5.toNat < [Value.int .i64 x4, Value.int .i64 (-1), Value.int .i64 1000, Value.int .i64 64, Value.int .i64 65, Value.int .i64 66].length, [Value.int .i64 x4, Value.int .i64 (-1), Value.int .i64 1000, Value.int .i64 64, Value.int .i64 65, Value.int .i64 66][x5.toNat]'hi = .int .i64 y := lit_get6 hy; (first | (have e5c := ((Blk.new w4 3 (ints [x4, -1, 1000, 64, 65, 66])).other g5 (by simp; omega)).cell hy) | (have e5c := ((Blk.new w4 3 (ints [x4, -1, 1000, 64, 65, 66])).drew.other g5 (by simp; omega)).cell hy) | skip); clear hy hym; have a50 := A5.out.cell (i := 0) rfl; have a51 := A5.out.cell (i := 1) rfl; have af5 := A5.out.free; have hs5 := g5.size; (try simp at hs5); have zz5 : w.heap.size + 1 < w5.heap.size := (by omega); have zw5 : w.heap.size < w5.heap.size := (by omega); have G5 := Lib.hid (gr_via (w := w1) (by (repeat' (first | exact gr_refl _ _ | (with_reducible assumption) | exact Hid.out (by assumption) | refine gr_drew ?_ | refine gr_drewN ?_ _ | refine gr_alloc ?_ _ | refine gr_set ?_ ?_ _ | omega | (simp; omega)))) g5); clear d5 g5 u5)))
  all_goals
    go_wp2
    refine bodyPost_ret (v := .tuple #[.agg #[.string SA, .string SB], .string S, .int .i64 y]) (by simp [results, Tryd.results44, go_sem, a50, a51, zw5]) rfl ?_
    go_light
    have BB := B1.out.trans (gr_below G5.out (by omega) (by omega))
    exact ⟨SA, SB, S, y, rfl, hSA, hSB, hS, hyb.1, hyb.2, by first | exact (BB.setCell (by simp) _).setCell (by simp) _ | exact ((BB.alloc (by omega) _).setCell (by simp) _).setCell (by simp) _ | exact ((BB.setCell (by simp) _).setCell (by simp) _).alloc (by simp; omega) _⟩
end Go.Proofs.YtdbojdgppgphkaaDoor
