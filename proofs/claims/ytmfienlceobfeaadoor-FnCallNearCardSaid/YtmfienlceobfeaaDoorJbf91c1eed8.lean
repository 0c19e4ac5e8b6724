/- Drawn calls of any make, drawn tests. Conditions: each contract's own. -/
import Derived.Test.YtmfienlceobfeaaDoorJ928e76897a
import Derived.Test.YtmfienlceobfeaaDoorJ6de6721e6c
namespace Go.Proofs.YtmfienlceobfeaaDoor
set_option linter.unusedSimpArgs false
open Go.RowKit
set_option linter.unusedVariables false
/-- A slice in memory from block B on, that may be written. -/
def Ow (w : World) (B : Nat) (A : Option Addr) (n : Nat) (xs : List Int) : Prop :=
  xs.length = n ∧ (0 < n → ∃ b off, A = some ⟨b, off, none⟩ ∧ B ≤ b ∧ b < w.heap.size ∧ ∀ j x, xs[j]? = some x → w.cell? ⟨b, off + j, none⟩ = some (.int .i64 x) ∧ w.frozen? ⟨b, off + j, none⟩ = false)
theorem Ow.of_own {w : World} {B e n c : Nat} {A : Option Addr} {xs : List Int} (h : w.ownsRow B e 1 (.slice A n c) n (ints xs)) : Ow w B A n xs := by
  refine ⟨by have := h.1; rw [ints_len] at this; omega, fun hn => ?_⟩
  rcases h.2 with ⟨_, h0⟩ | ⟨g, cap, cur, hv, hB, hg, _⟩
  · omega
  · have hA : A = some ⟨g, 0, none⟩ := by injection hv
    subst hA
    refine ⟨g, 0, rfl, hB, (Array.getElem?_eq_some_iff.1 hg).1, fun j x hx => ⟨?_, ?_⟩⟩
    · have := h.cells (g := g) rfl j _ (ints_at hx)
      rw [add_zero_block] at this
      simpa using this
    · exact frozen_of_row w g _ cur e hg
theorem Ow.rd {w : World} {B n : Nat} {A : Option Addr} {xs : List Int} (h : Ow w B A n xs) : Rd w w.heap.size 1 A n (ints xs) :=
  ⟨by rw [ints_len]; have := h.1; omega, fun hn => by
    obtain ⟨b, off, e, _, hlt, hc⟩ := h.2 hn
    refine ⟨b, off, e, hlt, fun j u hu => ?_⟩
    obtain ⟨x, hx, rfl⟩ : ∃ x, xs[j]? = some x ∧ u = .int .i64 x := by
      simp only [ints, List.getElem?_map, Option.map_eq_some_iff] at hu
      obtain ⟨x, hx, rfl⟩ := hu
      exact ⟨x, hx, rfl⟩
    exact (hc j x hx).1⟩
theorem Ow.kept {w w' : World} {B n : Nat} {A : Option Addr} {xs : List Int} {row : Option Nat} (h : Ow w B A n xs) (k : w.grownBy w' row) (hr : ∀ b, row = some b → b < B) : Ow w' B A n xs :=
  ⟨h.1, fun hn => by
    obtain ⟨b, off, e, hB, hlt, hc⟩ := h.2 hn
    have hb : w'.heap[b]? = w.heap[b]? := k.block b hlt (fun e => by have := hr b e.symm; omega)
    exact ⟨b, off, e, hB, Nat.lt_of_lt_of_le hlt k.size, fun j x hx => ⟨(World.cell?_of_block (w := w) (a := ⟨b, off + j, none⟩) hb).trans (hc j x hx).1, (World.frozen?_of_block (w := w) (a := ⟨b, off + j, none⟩) hb).trans (hc j x hx).2⟩⟩⟩
theorem Ow.up {w w' : World} {B n : Nat} {A : Option Addr} {xs : List Int} (h : Ow w B A n xs) (k : Below w.heap.size w w') : Ow w' B A n xs :=
  h.kept (row := none) ⟨k.os, k.tape, k.output, k.size, fun i hi _ => k.block i hi⟩ (by simp)
theorem Ow.low {w : World} {B B' n : Nat} {A : Option Addr} {xs : List Int} (h : Ow w B A n xs) (hB : B' ≤ B) : Ow w B' A n xs :=
  ⟨h.1, fun hn => by obtain ⟨b, off, e, h1, h2⟩ := h.2 hn; exact ⟨b, off, e, by omega, h2⟩⟩
theorem Ow.far {w : World} {B n : Nat} {A : Option Addr} {xs : List Int} (h : Ow w B A n xs) {p : Addr} (hp : p.block < B) (u : Value) : Ow (w.setCell p u) B A n xs :=
  h.kept (row := some p.block) ⟨rfl, rfl, rfl, by simp, fun k _ hk => heap_setCell_other w p k u (fun e => hk (by rw [e]))⟩ (fun b e => by injection e with e; omega)
theorem Dr.setCells {w : World} {g t : Nat} {p : Int} {A : Option Addr} {n c : Nat} {xs : List Int} (h : Dr w g t p A n c xs) (b o : Nat) (hb : g < b) (cs : List Value) : Dr (setCells w b o cs) g t p A n c xs := by
  induction cs generalizing w o with
  | nil => exact h
  | cons u cs ih => exact ih (h.far (a := ⟨b, o, none⟩) hb u) (o + 1)
theorem gr_setCells {a w : World} {g : Nat} (h : a.grownBy w (some g)) (b o : Nat) (hb : a.heap.size ≤ b) (cs : List Value) : a.grownBy (setCells w b o cs) (some g) := by
  induction cs generalizing w o with
  | nil => exact h
  | cons u cs ih => exact ih (gr_set h (p := ⟨b, o, none⟩) (.inr hb) u) (o + 1)
/-- A drawn call of any make. -/
def AnyCall (B : Nat) (v : Value) (w : World) : Prop := ∃ num A n c xs, v = .agg #[.int .i64 num, .slice A n c] ∧ Ow w B A n xs ∧ n ≤ 5
def AnyTest (v : Value) (_ : World) : Prop := ∃ f m op x, v = testV f m op x
set_option maxRecDepth 100000 in
set_option maxHeartbeats 1600000 in
theorem drawTest_c (g : Nat) (p : Int) (A : Option Addr) (n c : Nat) (xs : List Int) (w : World) (h : Dr w g 56 p A n c xs) (hp : p ≤ 1099511620000) :
    Calls Tryd.prog 23 #[.pointer (some ⟨g, 0, none⟩)] w (RetDraw AnyTest g 56 p 10 A n c xs w) := by
  have hlow := h.low
  have hgl := h.blk.lt
  have D0 := Lib.hid h
  clear h
  have hA := Lib.hid ((Blk.new w 52 [.int .i64 0, .int .i64 0, .int .i64 0, .int .i64 0]))
  go_enter Tryd.func23, Tryd.ntmps23
  (go_wp2_with fail); (go_at_call 13; refine (pick_c g _ _ A n c xs _ (D0.out.upto (by go_grown)) (by omega)).mono ?_; rintro e w1 ⟨_, q1, rfl, ⟨x1, rfl, l1, u1⟩, d1, e1, f1, g1⟩; have A1 := Lib.hid (hA.out.other g1 (by simp; omega)); clear hA; obtain ⟨gc1, gf1⟩ := grown_get g1; (try simp only [heap_drew, World.size_alloc, World.size_setCell] at gc1 gf1); have hs1 := g1.size; (try simp at hs1); have G1 := Lib.hid (gr_via (w := w) (by (repeat' (first | exact gr_refl _ _ | (with_reducible assumption) | exact Hid.out (by assumption) | refine gr_drew ?_ | refine gr_drewN ?_ _ | refine gr_alloc ?_ _ | refine gr_set ?_ ?_ _ | omega | (simp; omega)))) g1); clear g1; have D1 := Lib.hid d1; clear d1; have z1_0 : w.heap.size < w1.heap.size := (by omega); have n1_0 : w.heap.size ≠ g := (by omega))
  (go_wp2_with fail); (go_at_call 13; refine (pick_c g _ _ A n c xs _ D1.out (by omega)).mono ?_; rintro e w2 ⟨_, q2, rfl, ⟨x2, rfl, l2, u2⟩, d2, e2, f2, g2⟩; have A2 := Lib.hid (A1.out.other g2 (by simp; omega)); obtain ⟨gc2, gf2⟩ := grown_get g2; (try simp only [heap_drew, World.size_alloc, World.size_setCell] at gc2 gf2); have hs2 := g2.size; (try simp at hs2); have G2 := Lib.hid (gr_via (w := w) (by (repeat' (first | exact gr_refl _ _ | (with_reducible assumption) | exact Hid.out (by assumption) | refine gr_drew ?_ | refine gr_drewN ?_ _ | refine gr_alloc ?_ _ | refine gr_set ?_ ?_ _ | omega | (simp; omega)))) g2); clear g2; have D2 := Lib.hid d2; clear d2; have z2_0 : w.heap.size < w2.heap.size := (by omega); have n2_0 : w.heap.size ≠ g := (by omega))
  (go_wp2_with fail); (go_at_call 32; refine (dword_c g _ A n c xs _ D2.out (by omega)).mono ?_; rintro e w3 ⟨_, q3, rfl, ⟨x3, rfl, r3, r3'⟩, d3, e3, f3, g3⟩; have A3 := Lib.hid (A2.out.other g3 (by simp; omega)); obtain ⟨gc3, gf3⟩ := grown_get g3; (try simp only [heap_drew, World.size_alloc, World.size_setCell] at gc3 gf3); have hs3 := g3.size; (try simp at hs3); have G3 := Lib.hid (gr_via (w := w) (by (repeat' (first | exact gr_refl _ _ | (with_reducible assumption) | exact Hid.out (by assumption) | refine gr_drew ?_ | refine gr_drewN ?_ _ | refine gr_alloc ?_ _ | refine gr_set ?_ ?_ _ | omega | (simp; omega)))) g3); clear g3; have D3 := Lib.hid d3; clear d3; have z3_0 : w.heap.size < w3.heap.size := (by omega); have n3_0 : w.heap.size ≠ g := (by omega))
  have hB := Lib.hid ((Blk.new w3 52 [.int .i64 (1 + x1), .int .i64 4294967295, .int .i64 (1 + x2), .int .i64 x3]))
  have v1 := u1 (by omega)
  have v2 := u2 (by omega)
  (go_wp2_with fail); (go_at_call 13; refine (pick_c g _ _ A n c xs _ (D3.out.upto (by go_grown)) (by omega)).mono ?_; rintro e w4 ⟨_, q4, rfl, ⟨x4, rfl, l4, u4⟩, d4, e4, f4, g4⟩; have A4 := Lib.hid ((A3.out.alloc _).other g4 (by simp; omega)); have B4 := Lib.hid (hB.out.other g4 (by simp; omega)); clear hB; obtain ⟨gc4, gf4⟩ := grown_get g4; (try simp only [heap_drew, World.size_alloc, World.size_setCell] at gc4 gf4); have hs4 := g4.size; (try simp at hs4); have G4 := Lib.hid (gr_via (w := w) (by (repeat' (first | exact gr_refl _ _ | (with_reducible assumption) | exact Hid.out (by assumption) | refine gr_drew ?_ | refine gr_drewN ?_ _ | refine gr_alloc ?_ _ | refine gr_set ?_ ?_ _ | omega | (simp; omega)))) g4); clear g4; have D4 := Lib.hid d4; clear d4; have z4_0 : w.heap.size < w4.heap.size := (by omega); have n4_0 : w.heap.size ≠ g := (by omega); have z4_1 : w3.heap.size < w4.heap.size := (by omega); have n4_1 : w3.heap.size ≠ g := (by omega))
  go_upto_if 15 with (fail)
  go_cut [] (fun wx => ∃ f m op x q, Hid (Blk wx w.heap.size 52 [.int .i64 0, .int .i64 0, .int .i64 0, .int .i64 0]) ∧ Hid (Blk wx w3.heap.size 52 [.int .i64 f, .int .i64 m, .int .i64 op, .int .i64 x]) ∧ Hid (Dr wx g 56 q A n c xs) ∧ p ≤ q ∧ q ≤ p + 8 ∧ Hid (w.grownBy wx (some g)) ∧ w3.heap.size < wx.heap.size)
  case first =>
    go_wp2_with fail
    · (go_wp2_with fail); (go_at_call 13; refine (pick_c g _ _ A n c xs _ D4.out (by omega)).mono ?_; rintro e w5 ⟨_, q5, rfl, ⟨x5, rfl, l5, u5⟩, d5, e5, f5, g5⟩; have A5 := Lib.hid (A4.out.other g5 (by simp; omega)); have B5 := Lib.hid (B4.out.other g5 (by simp; omega)); obtain ⟨gc5, gf5⟩ := grown_get g5; (try simp only [heap_drew, World.size_alloc, World.size_setCell] at gc5 gf5); have hs5 := g5.size; (try simp at hs5); have G5 := Lib.hid (gr_via (w := w) (by (repeat' (first | exact gr_refl _ _ | (with_reducible assumption) | exact Hid.out (by assumption) | refine gr_drew ?_ | refine gr_drewN ?_ _ | refine gr_alloc ?_ _ | refine gr_set ?_ ?_ _ | omega | (simp; omega)))) g5); clear g5; have D5 := Lib.hid d5; clear d5; have z5_0 : w.heap.size < w5.heap.size := (by omega); have n5_0 : w.heap.size ≠ g := (by omega); have z5_1 : w3.heap.size < w5.heap.size := (by omega); have n5_1 : w3.heap.size ≠ g := (by omega); have c5 := B5.out.cell (i := 0) rfl; have cf5 := B5.out.free)
      go_wp2_with fail
      go_meet
      exact ⟨_, _, _, _, q5, A5.out.far (by simp; omega) _, B5.out.set_ 0 _, D5.out.far (by simp; omega) _, by omega, by omega, gr_set G5.out (.inr (by simp; omega)) _, by simp; omega⟩
    · go_meet
      exact ⟨_, _, _, _, q4, A4, B4, D4, by omega, by omega, G4, by omega⟩
  case rest =>
    obtain ⟨f, m, op, x, q, HA, HB, HD, hq1, hq2, HG, hz⟩ := hcut
    have hz0 : w.heap.size ≤ w3.heap.size := by omega
    have hne : w.heap.size ≠ w3.heap.size := by omega
    have b0 := HB.out.cell (i := 0) rfl
    have b1 := HB.out.cell (i := 1) rfl
    have b2 := HB.out.cell (i := 2) rfl
    have b3 := HB.out.cell (i := 3) rfl
    have bf := HB.out.free
    have a0 := HA.out.cell (i := 0) rfl
    have a1 := HA.out.cell (i := 1) rfl
    have a2 := HA.out.cell (i := 2) rfl
    have a3 := HA.out.cell (i := 3) rfl
    have af := HA.out.free
    go_wp2_with fail
    · (go_wp2_with fail); (go_at_call 13; refine (pick_c g _ _ A n c xs _ HD.out (by omega)).mono ?_; rintro e w6 ⟨_, q6, rfl, ⟨x6, rfl, l6, u6⟩, d6, e6, f6, g6⟩; have A6 := Lib.hid (HA.out.other g6 (by simp; omega)); have B6 := Lib.hid (HB.out.other g6 (by simp; omega)); obtain ⟨gc6, gf6⟩ := grown_get g6; have hs6 := g6.size; have G6 := Lib.hid (gr_via HG.out g6); have D6 := Lib.hid d6; clear d6 g6)
      clear b0 b1 b2 b3 bf a0 a1 a2 a3 af
      have b0 := B6.out.cell (i := 0) rfl
      have b1 := B6.out.cell (i := 1) rfl
      have b2 := B6.out.cell (i := 2) rfl
      have b3 := B6.out.cell (i := 3) rfl
      have bf := B6.out.free
      have a0 := A6.out.cell (i := 0) rfl
      have a1 := A6.out.cell (i := 1) rfl
      have a2 := A6.out.cell (i := 2) rfl
      have a3 := A6.out.cell (i := 3) rfl
      have af := A6.out.free
      clear gc6 gf6
      go_wp2_with fail
      · clear b0 b1 b2 b3 bf a0 a1 a2 a3 af
        have hE := Lib.hid (Blk.new w6 3 (ints [1, 3, 15, 240, 255]))
        (go_wp2_with fail); (go_at_call 13; refine (pick_c g _ _ A n c xs _ (D6.out.upto (by go_grown)) (by omega)).mono ?_; rintro e w7 ⟨_, q7, rfl, ⟨x7, rfl, l7, u7⟩, d7, e7, f7, g7⟩; have A7 := Lib.hid ((A6.out.alloc _).other g7 (by simp; omega)); have B7 := Lib.hid ((B6.out.alloc _).other g7 (by simp; omega)); have E7 := Lib.hid (hE.out.other g7 (by simp; omega)); clear hE; have hs7 := g7.size; simp at hs7; have G7 := Lib.hid (gr_via (gr_alloc G6.out _) g7); have D7 := Lib.hid d7; clear d7 g7)
        have v7 := u7 (by omega)
        obtain ⟨y, hy⟩ := lit_at [1, 3, 15, 240, 255] x7 l7 (by simp; omega)
        have e7c := E7.out.cell hy
        clear hy
        have hn7 : w3.heap.size ≠ w6.heap.size := by omega
        have b0 := B7.out.cell (i := 0) rfl
        have b1 := B7.out.cell (i := 1) rfl
        have b2 := B7.out.cell (i := 2) rfl
        have b3 := B7.out.cell (i := 3) rfl
        have bf := B7.out.free
        have a0 := A7.out.cell (i := 0) rfl
        have a1 := A7.out.cell (i := 1) rfl
        have a2 := A7.out.cell (i := 2) rfl
        have a3 := A7.out.cell (i := 3) rfl
        have af := A7.out.free
        go_wp2
        refine bodyPost_ret (v := testV f y 1 (bits .and .i64 x y)) (by simp [results, Tryd.results23, go_sem, a0, a1, a2, a3, testV, hne]) rfl ?_
        go_light
        exact ⟨_, q7, rfl, ⟨_, _, _, _, rfl⟩, ((D7.out.far (a := ⟨w3.heap.size, 1, none⟩) (by simp; omega) _).far (a := ⟨w3.heap.size, 3, none⟩) (by simp; omega) _).setCells w.heap.size 0 (by omega) [.int .i64 f, .int .i64 y, .int .i64 1, .int .i64 (bits .and .i64 x y)], by omega, by omega,
          gr_setCells (gr_set (gr_set G7.out (p := ⟨w3.heap.size, 1, none⟩) (.inr hz0) _) (p := ⟨w3.heap.size, 3, none⟩) (.inr hz0) _) w.heap.size 0 (Nat.le_refl _) [.int .i64 f, .int .i64 y, .int .i64 1, .int .i64 (bits .and .i64 x y)]⟩
      · refine bodyPost_ret (v := testV f m 1 x) (by simp [results, Tryd.results23, go_sem, a0, a1, a2, a3, testV]) rfl ?_
        go_light
        exact ⟨_, q6, rfl, ⟨_, _, _, _, rfl⟩, D6.out.setCells w.heap.size 0 (by omega) [.int .i64 f, .int .i64 m, .int .i64 1, .int .i64 x], by omega, by omega, gr_setCells G6.out w.heap.size 0 (Nat.le_refl _) [.int .i64 f, .int .i64 m, .int .i64 1, .int .i64 x]⟩
    · refine bodyPost_ret (v := testV f m op x) (by simp [results, Tryd.results23, go_sem, a0, a1, a2, a3, testV]) rfl ?_
      go_light
      exact ⟨_, q, rfl, ⟨_, _, _, _, rfl⟩, HD.out.setCells w.heap.size 0 (by omega) [.int .i64 f, .int .i64 m, .int .i64 op, .int .i64 x], by omega, by omega, gr_setCells HG.out w.heap.size 0 (Nat.le_refl _) [.int .i64 f, .int .i64 m, .int .i64 op, .int .i64 x]⟩
end Go.Proofs.YtmfienlceobfeaaDoor
