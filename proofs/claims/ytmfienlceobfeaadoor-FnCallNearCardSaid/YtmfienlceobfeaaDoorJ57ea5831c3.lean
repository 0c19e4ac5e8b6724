/- Drawn tests of any make; the opening of a reader. Conditions: each contract's own. -/
import Derived.Test.YtmfienlceobfeaaDoorJbf91c1eed8
namespace Go.Proofs.YtmfienlceobfeaaDoor
set_option linter.unusedSimpArgs false
open Go.RowKit
set_option linter.unusedVariables false
set_option maxRecDepth 100000 in
set_option maxHeartbeats 1600000 in
theorem drawAnyTest_c (g : Nat) (p : Int) (A : Option Addr) (n c : Nat) (xs : List Int) (w : World) (h : Dr w g 56 p A n c xs) (hp : p ≤ 1099511610000) :
    Calls Tryd.prog 25 #[.pointer (some ⟨g, 0, none⟩)] w (RetDraw AnyTest g 56 p 12 A n c xs w) := by
  have hlow := h.low
  have hgl := h.blk.lt
  have D0 := Lib.hid h
  clear h
  have hA := Lib.hid ((Blk.new w 52 [.int .i64 0, .int .i64 0, .int .i64 0, .int .i64 0]))
  go_enter Tryd.func25, Tryd.ntmps25
  (go_wp2_with fail); (go_at_call 23; refine (drawTest_c g _ A n c xs _ (D0.out.upto (by go_grown)) (by omega)).mono ?_; rintro e w1 ⟨_, q1, rfl, ⟨f, m, op, x, rfl⟩, d1, e1, f1, g1⟩; have A1 := Lib.hid (hA.out.other g1 (by simp; omega)); clear hA; unfold testV; obtain ⟨gc1, gf1⟩ := grown_get g1; (try simp only [heap_drew, World.size_alloc, World.size_setCell] at gc1 gf1); have hs1 := g1.size; (try simp at hs1); have G1 := Lib.hid (gr_via (w := w) (by (repeat' (first | exact gr_refl _ _ | (with_reducible assumption) | exact Hid.out (by assumption) | refine gr_drew ?_ | refine gr_drewN ?_ _ | refine gr_alloc ?_ _ | refine gr_set ?_ ?_ _ | omega | (simp; omega)))) g1); clear g1; have D1 := Lib.hid d1; clear d1; have z1_0 : w.heap.size < w1.heap.size := (by omega); have n1_0 : w.heap.size ≠ g := (by omega))
  have hB := Lib.hid ((Blk.new w1 52 [.int .i64 f, .int .i64 m, .int .i64 op, .int .i64 x]))
  (go_wp2_with fail); (go_at_call 13; refine (pick_c g _ _ A n c xs _ (D1.out.upto (by go_grown)) (by omega)).mono ?_; rintro e w2 ⟨_, q2, rfl, ⟨x2, rfl, l2, u2⟩, d2, e2, f2, g2⟩; have A2 := Lib.hid ((A1.out.alloc _).other g2 (by simp; omega)); have B2 := Lib.hid (hB.out.other g2 (by simp; omega)); clear hB; obtain ⟨gc2, gf2⟩ := grown_get g2; (try simp only [heap_drew, World.size_alloc, World.size_setCell] at gc2 gf2); have hs2 := g2.size; (try simp at hs2); have G2 := Lib.hid (gr_via (w := w) (by (repeat' (first | exact gr_refl _ _ | (with_reducible assumption) | exact Hid.out (by assumption) | refine gr_drew ?_ | refine gr_drewN ?_ _ | refine gr_alloc ?_ _ | refine gr_set ?_ ?_ _ | omega | (simp; omega)))) g2); clear g2; have D2 := Lib.hid d2; clear d2; have z2_0 : w.heap.size < w2.heap.size := (by omega); have n2_0 : w.heap.size ≠ g := (by omega); have z2_1 : w1.heap.size < w2.heap.size := (by omega); have n2_1 : w1.heap.size ≠ g := (by omega))
  clear gc1 gf1 gc2 gf2
  have hz0 : w.heap.size ≤ w1.heap.size := by omega
  have hne : w.heap.size ≠ w1.heap.size := by omega
  have b0 := B2.out.cell (i := 0) rfl
  have b1 := B2.out.cell (i := 1) rfl
  have b2 := B2.out.cell (i := 2) rfl
  have b3 := B2.out.cell (i := 3) rfl
  have bf := B2.out.free
  have a0 := A2.out.cell (i := 0) rfl
  have a1 := A2.out.cell (i := 1) rfl
  have a2 := A2.out.cell (i := 2) rfl
  have a3 := A2.out.cell (i := 3) rfl
  have af := A2.out.free
  go_wp2_with fail
  · have hE := Lib.hid (Blk.new w2 3 (ints [0, -1, 5]))
    clear b0 b1 b2 b3 bf a0 a1 a2 a3 af
    (go_wp2_with fail); (go_at_call 13; refine (pick_c g _ _ A n c xs _ (D2.out.upto (by go_grown)) (by omega)).mono ?_; rintro e w3 ⟨_, q3, rfl, ⟨x3, rfl, l3, u3⟩, d3, e3, f3, g3⟩; have A3 := Lib.hid ((A2.out.alloc _).other g3 (by simp; omega)); have B3 := Lib.hid ((B2.out.alloc _).other g3 (by simp; omega)); have E3 := Lib.hid (hE.out.other g3 (by simp; omega)); clear hE; have hs3 := g3.size; simp at hs3; have G3 := Lib.hid (gr_via (gr_alloc G2.out _) g3); have D3 := Lib.hid d3; clear d3 g3)
    have v3 := u3 (by omega)
    obtain ⟨y, hy⟩ := lit_at [0, -1, 5] x3 l3 (by simp; omega)
    have e3c := E3.out.cell hy
    clear hy
    have b0 := B3.out.cell (i := 0) rfl
    have b1 := B3.out.cell (i := 1) rfl
    have b2 := B3.out.cell (i := 2) rfl
    have b3 := B3.out.cell (i := 3) rfl
    have bf := B3.out.free
    have a0 := A3.out.cell (i := 0) rfl
    have a1 := A3.out.cell (i := 1) rfl
    have a2 := A3.out.cell (i := 2) rfl
    have a3 := A3.out.cell (i := 3) rfl
    have af := A3.out.free
    go_wp2
    refine bodyPost_ret (v := testV y m op x) (by simp [results, Tryd.results25, go_sem, a0, a1, a2, a3, testV, hne]) rfl ?_
    go_light
    exact ⟨_, q3, rfl, ⟨_, _, _, _, rfl⟩, (D3.out.far (a := ⟨w1.heap.size, 0, none⟩) (by simp; omega) _).setCells w.heap.size 0 (by omega) [.int .i64 y, .int .i64 m, .int .i64 op, .int .i64 x], by omega, by omega,
      gr_setCells (gr_set G3.out (p := ⟨w1.heap.size, 0, none⟩) (.inr hz0) _) w.heap.size 0 (Nat.le_refl _) [.int .i64 y, .int .i64 m, .int .i64 op, .int .i64 x]⟩
  · have hE := Lib.hid (Blk.new w2 3 (ints [0, 3, 4294967296]))
    clear b0 b1 b2 b3 bf a0 a1 a2 a3 af
    (go_wp2_with fail); (go_at_call 13; refine (pick_c g _ _ A n c xs _ (D2.out.upto (by go_grown)) (by omega)).mono ?_; rintro e w3 ⟨_, q3, rfl, ⟨x3, rfl, l3, u3⟩, d3, e3, f3, g3⟩; have A3 := Lib.hid ((A2.out.alloc _).other g3 (by simp; omega)); have B3 := Lib.hid ((B2.out.alloc _).other g3 (by simp; omega)); have E3 := Lib.hid (hE.out.other g3 (by simp; omega)); clear hE; have hs3 := g3.size; simp at hs3; have G3 := Lib.hid (gr_via (gr_alloc G2.out _) g3); have D3 := Lib.hid d3; clear d3 g3)
    have v3 := u3 (by omega)
    obtain ⟨y, hy⟩ := lit_at [0, 3, 4294967296] x3 l3 (by simp; omega)
    have e3c := E3.out.cell hy
    clear hy
    have b0 := B3.out.cell (i := 0) rfl
    have b1 := B3.out.cell (i := 1) rfl
    have b2 := B3.out.cell (i := 2) rfl
    have b3 := B3.out.cell (i := 3) rfl
    have bf := B3.out.free
    have a0 := A3.out.cell (i := 0) rfl
    have a1 := A3.out.cell (i := 1) rfl
    have a2 := A3.out.cell (i := 2) rfl
    have a3 := A3.out.cell (i := 3) rfl
    have af := A3.out.free
    go_wp2
    refine bodyPost_ret (v := testV f y op x) (by simp [results, Tryd.results25, go_sem, a0, a1, a2, a3, testV, hne]) rfl ?_
    go_light
    exact ⟨_, q3, rfl, ⟨_, _, _, _, rfl⟩, (D3.out.far (a := ⟨w1.heap.size, 1, none⟩) (by simp; omega) _).setCells w.heap.size 0 (by omega) [.int .i64 f, .int .i64 y, .int .i64 op, .int .i64 x], by omega, by omega,
      gr_setCells (gr_set G3.out (p := ⟨w1.heap.size, 1, none⟩) (.inr hz0) _) w.heap.size 0 (Nat.le_refl _) [.int .i64 f, .int .i64 y, .int .i64 op, .int .i64 x]⟩
  · have hE := Lib.hid (Blk.new w2 3 (ints [0, 4]))
    clear b0 b1 b2 b3 bf a0 a1 a2 a3 af
    (go_wp2_with fail); (go_at_call 13; refine (pick_c g _ _ A n c xs _ (D2.out.upto (by go_grown)) (by omega)).mono ?_; rintro e w3 ⟨_, q3, rfl, ⟨x3, rfl, l3, u3⟩, d3, e3, f3, g3⟩; have A3 := Lib.hid ((A2.out.alloc _).other g3 (by simp; omega)); have B3 := Lib.hid ((B2.out.alloc _).other g3 (by simp; omega)); have E3 := Lib.hid (hE.out.other g3 (by simp; omega)); clear hE; have hs3 := g3.size; simp at hs3; have G3 := Lib.hid (gr_via (gr_alloc G2.out _) g3); have D3 := Lib.hid d3; clear d3 g3)
    have v3 := u3 (by omega)
    obtain ⟨y, hy⟩ := lit_at [0, 4] x3 l3 (by simp; omega)
    have e3c := E3.out.cell hy
    clear hy
    have b0 := B3.out.cell (i := 0) rfl
    have b1 := B3.out.cell (i := 1) rfl
    have b2 := B3.out.cell (i := 2) rfl
    have b3 := B3.out.cell (i := 3) rfl
    have bf := B3.out.free
    have a0 := A3.out.cell (i := 0) rfl
    have a1 := A3.out.cell (i := 1) rfl
    have a2 := A3.out.cell (i := 2) rfl
    have a3 := A3.out.cell (i := 3) rfl
    have af := A3.out.free
    go_wp2
    refine bodyPost_ret (v := testV f m y x) (by simp [results, Tryd.results25, go_sem, a0, a1, a2, a3, testV, hne]) rfl ?_
    go_light
    exact ⟨_, q3, rfl, ⟨_, _, _, _, rfl⟩, (D3.out.far (a := ⟨w1.heap.size, 2, none⟩) (by simp; omega) _).setCells w.heap.size 0 (by omega) [.int .i64 f, .int .i64 m, .int .i64 y, .int .i64 x], by omega, by omega,
      gr_setCells (gr_set G3.out (p := ⟨w1.heap.size, 2, none⟩) (.inr hz0) _) w.heap.size 0 (Nat.le_refl _) [.int .i64 f, .int .i64 m, .int .i64 y, .int .i64 x]⟩
  · have hE := Lib.hid (Blk.new w2 3 (ints [-1, 4294967296]))
    clear b0 b1 b2 b3 bf a0 a1 a2 a3 af
    (go_wp2_with fail); (go_at_call 13; refine (pick_c g _ _ A n c xs _ (D2.out.upto (by go_grown)) (by omega)).mono ?_; rintro e w3 ⟨_, q3, rfl, ⟨x3, rfl, l3, u3⟩, d3, e3, f3, g3⟩; have A3 := Lib.hid ((A2.out.alloc _).other g3 (by simp; omega)); have B3 := Lib.hid ((B2.out.alloc _).other g3 (by simp; omega)); have E3 := Lib.hid (hE.out.other g3 (by simp; omega)); clear hE; have hs3 := g3.size; simp at hs3; have G3 := Lib.hid (gr_via (gr_alloc G2.out _) g3); have D3 := Lib.hid d3; clear d3 g3)
    have v3 := u3 (by omega)
    obtain ⟨y, hy⟩ := lit_at [-1, 4294967296] x3 l3 (by simp; omega)
    have e3c := E3.out.cell hy
    clear hy
    have b0 := B3.out.cell (i := 0) rfl
    have b1 := B3.out.cell (i := 1) rfl
    have b2 := B3.out.cell (i := 2) rfl
    have b3 := B3.out.cell (i := 3) rfl
    have bf := B3.out.free
    have a0 := A3.out.cell (i := 0) rfl
    have a1 := A3.out.cell (i := 1) rfl
    have a2 := A3.out.cell (i := 2) rfl
    have a3 := A3.out.cell (i := 3) rfl
    have af := A3.out.free
    go_wp2
    refine bodyPost_ret (v := testV f m op y) (by simp [results, Tryd.results25, go_sem, a0, a1, a2, a3, testV, hne]) rfl ?_
    go_light
    exact ⟨_, q3, rfl, ⟨_, _, _, _, rfl⟩, (D3.out.far (a := ⟨w1.heap.size, 3, none⟩) (by simp; omega) _).setCells w.heap.size 0 (by omega) [.int .i64 f, .int .i64 m, .int .i64 op, .int .i64 y], by omega, by omega,
      gr_setCells (gr_set G3.out (p := ⟨w1.heap.size, 3, none⟩) (.inr hz0) _) w.heap.size 0 (Nat.le_refl _) [.int .i64 f, .int .i64 m, .int .i64 op, .int .i64 y]⟩
  · refine bodyPost_ret (v := testV f m op x) (by simp [results, Tryd.results25, go_sem, a0, a1, a2, a3, testV]) rfl ?_
    go_light
    exact ⟨_, q2, rfl, ⟨_, _, _, _, rfl⟩, D2.out.setCells w.heap.size 0 (by omega) [.int .i64 f, .int .i64 m, .int .i64 op, .int .i64 x], by omega, by omega, gr_setCells G2.out w.heap.size 0 (Nat.le_refl _) [.int .i64 f, .int .i64 m, .int .i64 op, .int .i64 x]⟩
theorem dr_new (w : World) (t : Nat) (A : Option Addr) (n c : Nat) (xs : List Int) (hr : Rd w w.heap.size 1 A n (u8s xs)) (hx : ∀ x ∈ xs, 0 ≤ x ∧ x ≤ 255) (hn : n ≤ 2000) :
    Dr (w.alloc (.cells #[.slice A n c, .int .i64 0] t)) w.heap.size t 0 A n c xs :=
  ⟨Blk.new w t [.slice A n c, .int .i64 0], hr.below ((Below.refl _ _).alloc (Nat.le_refl _) _), hx, hn, Int.le_refl _⟩
theorem l1Open_c (A : Option Addr) (n c : Nat) (xs : List Int) (w : World) (hr : Rd w w.heap.size 1 A n (u8s xs)) (hx : ∀ x ∈ xs, 0 ≤ x ∧ x ≤ 255) (hc : n ≤ c) (hc2 : c ≤ 9223372036854775807) :
    Calls Tryd.prog 11 #[.slice A n c] w fun e w' => ∃ n' c' xs', e = .returned (.pointer (some ⟨w.heap.size, 0, none⟩)) ∧ Dr w' w.heap.size 56 0 A n' c' xs' ∧ Below w.heap.size w w' ∧ w.heap.size < w'.heap.size := by
  by_cases h : n ≤ 2000
  · have HR := Lib.hid hr
    have HX := Lib.hid hx
    clear hr hx
    have h' : decide ((2000 : Int) < n) = false := by simp; omega
    go_enter Tryd.func11, Tryd.ntmps11
    go_wp2
    go_returns
    exact ⟨n, c, xs, rfl, dr_new w _ A n c xs HR.out HX.out h, by go_grown, by simp⟩
  · obtain ⟨b, off, rfl, hb, hcl⟩ := hr.2 (by omega)
    have hl := hr.len1
    have hr2 : Rd w w.heap.size 1 (some ⟨b, off, none⟩) 2000 (u8s (xs.take 2000)) := by
      refine ⟨by simp [u8s] at *; omega, fun _ => ⟨b, off, rfl, hb, fun j u hu => hcl j u ?_⟩⟩
      simp only [u8s, List.map_take, List.getElem?_take] at hu
      split at hu
      · exact hu
      · cases hu
    have hx2 : ∀ x ∈ xs.take 2000, 0 ≤ x ∧ x ≤ 255 := fun x h => hx x (List.mem_of_mem_take h)
    have HR := Lib.hid hr2
    have HX := Lib.hid hx2
    clear hr hx hr2 hx2 hcl hl
    have h' : decide ((2000 : Int) < n) = true := by simp; omega
    go_enter Tryd.func11, Tryd.ntmps11
    go_wp2
    go_returns
    exact ⟨2000, c, xs.take 2000, rfl, dr_new w _ _ 2000 c _ HR.out HX.out (by omega), by go_grown, by simp⟩
end Go.Proofs.YtmfienlceobfeaaDoor
