/- Drawn calls of any make. Conditions: each contract's own. -/
import Derived.Test.YtljgaepgblakhaaDoorDraw3
import Derived.Deep.CutBlock
namespace Go.Proofs.YtljgaepgblakhaaDoor
set_option linter.unusedSimpArgs false
open Go.RowKit
set_option linter.unusedVariables false
set_option linter.unnecessarySimpa false
theorem Ow.kept' {w w' : World} {B n b off : Nat} {xs : List Int} {row : Option Nat} (h : Ow w B (some ⟨b, off, none⟩) n xs) (k : w.grownBy w' row) (hr : row ≠ some b) : Ow w' B (some ⟨b, off, none⟩) n xs :=
  ⟨h.1, fun hn => by
    obtain ⟨b', off', e, hB, hlt, hc⟩ := h.2 hn
    injection e with e; injection e with e1 e2; subst e1 e2
    have hb : w'.heap[b]? = w.heap[b]? := k.block b hlt (fun e => hr e.symm)
    exact ⟨b, off, rfl, hB, Nat.lt_of_lt_of_le hlt k.size, fun j x hx => ⟨(World.cell?_of_block (w := w) (a := ⟨b, off + j, none⟩) hb).trans (hc j x hx).1, (World.frozen?_of_block (w := w) (a := ⟨b, off + j, none⟩) hb).trans (hc j x hx).2⟩⟩⟩
theorem Ow.far' {w : World} {B n b off : Nat} {xs : List Int} (h : Ow w B (some ⟨b, off, none⟩) n xs) {p : Addr} (hp : p.block ≠ b) (u : Value) : Ow (w.setCell p u) B (some ⟨b, off, none⟩) n xs :=
  h.kept' (row := some p.block) ⟨rfl, rfl, rfl, by simp, fun k _ hk => heap_setCell_other w p k u (fun e => hk (by rw [e]))⟩ (by simpa using hp)
theorem Ow.setCells' {w : World} {B n b off : Nat} {xs : List Int} (h : Ow w B (some ⟨b, off, none⟩) n xs) (g o : Nat) (hg : g ≠ b) (cs : List Value) : Ow (setCells w g o cs) B (some ⟨b, off, none⟩) n xs := by
  induction cs generalizing w o with
  | nil => exact h
  | cons u cs ih => exact ih (h.far' (p := ⟨g, o, none⟩) hg u) (o + 1)
theorem Ow.tail {w : World} {B n b off : Nat} {xs : List Int} (h : Ow w B (some ⟨b, off, none⟩) (n + 1) xs) : Ow w B (some ⟨b, off + 1, none⟩) n (xs.drop 1) :=
  ⟨by simp [h.1], fun _ => by
    obtain ⟨b', off', e, hB, hlt, hc⟩ := h.2 (by omega)
    injection e with e; injection e with e1 e2; subst e1 e2
    exact ⟨b, off + 1, rfl, hB, hlt, fun j x hx => by
      have := hc (1 + j) x (by rw [← hx, List.getElem?_drop])
      rw [show off + (1 + j) = off + 1 + j from by omega] at this
      exact this⟩⟩
theorem Ow.put {w : World} {B n b off : Nat} {xs : List Int} (h : Ow w B (some ⟨b, off, none⟩) n xs) (j : Nat) (y : Int) : Ow (w.setCell ⟨b, off + j, none⟩ (.int .i64 y)) B (some ⟨b, off, none⟩) n (xs.set j y) :=
  ⟨by simp [h.1], fun hn => by
    obtain ⟨b', off', e, hB, hlt, hc⟩ := h.2 hn
    injection e with e; injection e with e1 e2; subst e1 e2
    refine ⟨b, off, rfl, hB, by simpa using hlt, fun i x hx => ?_⟩
    rw [List.getElem?_set] at hx
    split at hx
    · rename_i e
      subst e
      split at hx
      · rename_i hj
        injection hx with hx
        subst hx
        obtain ⟨c1, c2⟩ := hc j _ (List.getElem?_eq_getElem hj)
        exact ⟨World.cell?_setCell_same _ _ _ c1, by simpa using c2⟩
      · cases hx
    · rename_i e
      obtain ⟨c1, c2⟩ := hc i x hx
      exact ⟨(World.cell?_setCell_other w _ _ _ (by simpa using e)).trans c1, by simpa using c2⟩⟩
theorem Ow.cellAt {w : World} {B n b off : Nat} {xs : List Int} (h : Ow w B (some ⟨b, off, none⟩) n xs) (j : Nat) (hj : j < n) : (∃ x, w.cell? ⟨b, off + j, none⟩ = some (.int .i64 x)) ∧ w.frozen? ⟨b, off + j, none⟩ = false := by
  obtain ⟨b', off', e, _, _, hc⟩ := h.2 (by omega)
  injection e with e; injection e with e1 e2; subst e1 e2
  obtain ⟨x, hx⟩ := some_at h.1 hj
  exact ⟨⟨x, (hc j x hx).1⟩, (hc j x hx).2⟩
theorem Ow.cellAt0 {w : World} {B n b : Nat} {xs : List Int} (h : Ow w B (some ⟨b, 0, none⟩) n xs) (j : Nat) (hj : j < n) : (∃ x, w.cell? ⟨b, j, none⟩ = some (.int .i64 x)) ∧ w.frozen? ⟨b, j, none⟩ = false := by
  have := h.cellAt j hj
  rwa [Nat.zero_add] at this
theorem lit_get {l : List Int} {i : Nat} {y : Int} (h : (l.map (Value.int .i64))[i]? = some (.int .i64 y)) : ∀ hi : i < (l.map (Value.int .i64)).length, (l.map (Value.int .i64))[i] = .int .i64 y := fun hi => by
  rw [List.getElem?_eq_getElem hi] at h
  injection h
theorem Ow.put0 {w : World} {B n b : Nat} {xs : List Int} (h : Ow w B (some ⟨b, 0, none⟩) n xs) (j : Nat) (y : Int) : Ow (w.setCell ⟨b, j, none⟩ (.int .i64 y)) B (some ⟨b, 0, none⟩) n (xs.set j y) := by
  have := h.put j y
  rwa [Nat.zero_add] at this
theorem Blk.upto2 {w w' : World} {g t : Nat} {cs : List Value} (h : Blk w g t cs) (hb : Below w.heap.size w w') : Blk w' g t cs := h.up hb
set_option maxRecDepth 100000 in
set_option maxHeartbeats 1600000 in
theorem drawAnyCall_c (g : Nat) (p : Int) (A : Option Addr) (n c : Nat) (xs : List Int) (w : World) (h : Dr w g 122 p A n c xs) (hp : p ≤ 1099511610000) :
    Calls Tryd.prog 64 #[.pointer (some ⟨g, 0, none⟩)] w (RetDraw (AnyCall w.heap.size) g 122 p 30 A n c xs w) := by
  obtain ⟨i0, hi0, hz0, hz1, hz2⟩ := info_parts info_int
  have hlow := h.low
  have hgl := h.blk.lt
  have D0 := Lib.hid h
  clear h
  have hA := Lib.hid ((Blk.new w 28 [.int .i64 0, .slice none 0 0]))
  go_enter Tryd.func64, Tryd.ntmps64
  (go_wp2_with fail); (go_at_call 108; refine (drawCall_c g _ A n c xs _ (D0.out.upto (by go_grown)) (by omega)).mono ?_; rintro e w1 ⟨_, q1, rfl, ⟨num, A1, c1, ys, rfl, hown1, hcb1⟩, d1, e1, f1, g1⟩; have A1' := Lib.hid (hA.out.other g1 (by simp; omega)); clear hA; obtain ⟨gc1, gf1⟩ := grown_get g1; (try simp only [heap_drew, World.size_alloc, World.size_setCell] at gc1 gf1); have hs1 := g1.size; (try simp at hs1); have G1 := Lib.hid (gr_via (w := w) (by (repeat' (first | exact gr_refl _ _ | (with_reducible assumption) | exact Hid.out (by assumption) | refine gr_drew ?_ | refine gr_drewN ?_ _ | refine gr_alloc ?_ _ | refine gr_set ?_ ?_ _ | omega | (simp; omega)))) g1); clear g1; have D1 := Lib.hid d1; clear d1; have z1_0 : w.heap.size < w1.heap.size := (by omega); have n1_0 : w.heap.size ≠ g := (by omega))
  obtain ⟨b, rfl, hb0, hb1, hcap, O1⟩ : ∃ b, A1 = some ⟨b, 0, none⟩ ∧ w.heap.size + 1 ≤ b ∧ b < w1.heap.size ∧ 4 ≤ c1 ∧ Hid (Ow w1 (w.heap.size + 1) (some ⟨b, 0, none⟩) 4 ys) := by
    have ho := Ow.of_own hown1
    rcases hown1.2 with ⟨_, h0⟩ | ⟨b, cap, cur, hv, hB, hg, hcap, _⟩
    · omega
    · injection hv with hv1 _ hv2
      subst hv1 hv2
      exact ⟨b, rfl, by simpa using hB, (Array.getElem?_eq_some_iff.1 hg).1, hcap, ho.low (by simp)⟩
  have HO1 := Lib.hid hown1
  clear hown1 hcb1
  have hB := Lib.hid ((Blk.new w1 28 [.int .i64 num, .slice (some ⟨b, 0, none⟩) 4 c1]))
  (go_wp2_with fail); (go_at_call 63; refine (pick_c g _ _ A n c xs _ (D1.out.upto (by go_grown)) (by omega)).mono ?_; rintro e w2 ⟨_, q2, rfl, ⟨x2, rfl, l2, u2⟩, d2, e2, f2, g2⟩; have A2 := Lib.hid ((A1'.out.alloc _).other g2 (by simp; omega)); have B2 := Lib.hid (hB.out.other g2 (by simp; omega)); have G12 := Lib.hid g2; have O2 := Lib.hid ((O1.out.up (Below.alloc (Below.refl _ _) (Nat.le_refl _) _)).kept' g2 (by simp; omega)); clear hB; obtain ⟨gc2, gf2⟩ := grown_get g2; (try simp only [heap_drew, World.size_alloc, World.size_setCell] at gc2 gf2); have hs2 := g2.size; (try simp at hs2); have G2 := Lib.hid (gr_via (w := w) (by (repeat' (first | exact gr_refl _ _ | (with_reducible assumption) | exact Hid.out (by assumption) | refine gr_drew ?_ | refine gr_drewN ?_ _ | refine gr_alloc ?_ _ | refine gr_set ?_ ?_ _ | omega | (simp; omega)))) g2); clear g2; have D2 := Lib.hid d2; clear d2; have z2_0 : w.heap.size < w2.heap.size := (by omega); have n2_0 : w.heap.size ≠ g := (by omega); have z2_1 : w1.heap.size < w2.heap.size := (by omega); have n2_1 : w1.heap.size ≠ g := (by omega))
  clear gc1 gf1 gc2 gf2
  have hz0' : w.heap.size ≤ w1.heap.size := by omega
  have hne : w.heap.size ≠ w1.heap.size := by omega
  have b0 := B2.out.cell (i := 0) rfl
  have b1 := B2.out.cell (i := 1) rfl
  have bf := B2.out.free
  have a0 := A2.out.cell (i := 0) rfl
  have a1 := A2.out.cell (i := 1) rfl
  have af := A2.out.free
  have hcap1 : ¬ c1 = 1 := by omega
  have v2 := u2 (by omega)
  go_upto_block 0 with (fail)
  go_cut [] (fun wx => ∃ (num' : Int) (A' : Option Addr) (n' c' : Nat) (zs : List Int) (q : Int), Hid (Blk wx w.heap.size 28 [.int .i64 0, .slice none 0 0]) ∧ Hid (Blk wx w1.heap.size 28 [.int .i64 num', .slice A' n' c']) ∧ Hid (Ow wx (w.heap.size + 1) A' n' zs) ∧ n' ≤ 5 ∧ Hid (Dr wx g 122 q A n c xs) ∧ q2 ≤ q ∧ q ≤ q2 + 2 ∧ Hid (w.grownBy wx (some g)))
  case first =>
    by_cases h0 : x2 = 0
    · subst h0
      have hE := Lib.hid (Blk.new w2 3 (ints [-1, 4294967296]))
      clear b0 b1 bf a0 a1 af
      (go_wp2_with fail); (go_at_call 63; refine (pick_c g _ _ A n c xs _ (D2.out.upto (by go_grown)) (by omega)).mono ?_; rintro e w3 ⟨_, q3, rfl, ⟨x3, rfl, l3, u3⟩, d3, e3, f3, g3⟩; have A3 := Lib.hid ((A2.out.alloc _).other g3 (by simp; omega)); have B3 := Lib.hid ((B2.out.alloc _).other g3 (by simp; omega)); have E3 := Lib.hid (hE.out.other g3 (by simp; omega)); have O3 := Lib.hid ((O2.out.up (Below.alloc (Below.refl _ _) (Nat.le_refl _) _)).kept' g3 (by simp; omega)); clear hE; have hs3 := g3.size; simp at hs3; have G3 := Lib.hid (gr_via (gr_alloc G2.out _) g3); have D3 := Lib.hid d3; clear d3 g3)
      have v3 := u3 (by omega)
      obtain ⟨y, hy⟩ := lit_at [-1, 4294967296] x3 l3 (by simp; omega)
      have e3c := E3.out.cell hy
      clear hy
      have b0 := B3.out.cell (i := 0) rfl
      have bf := B3.out.free
      go_wp2
      go_meet
      exact ⟨y, _, 4, c1, ys, q3, A3.out.far (by simp; omega) _, B3.out.set_ 0 _, O3.out.far' (by simp; omega) _, by omega, D3.out.far (by simp; omega) _, by omega, by omega, gr_set G3.out (.inr (by simp; omega)) _⟩
    have k0 : (x2 == 0) = false := by simpa using h0
    by_cases h1 : x2 = 1
    · subst h1
      clear b0 bf a0 a1 af
      go_wp2
      go_region_law (first
         | (go_simp; (go_at_call_of 63 (Value.int IntKind.i64 2); refine (pick_c g _ _ A n c xs _ (D3.out.upto (by go_grown)) (by omega)).mono ?_; rintro e w4 ⟨_, q4, rfl, ⟨x4, rfl, l4, u4⟩, d4, e4, f4, g4⟩; have A4 := Lib.hid ((A3.out.upto2 (by go_grown)).other g4 (by simp; omega)); have B4 := Lib.hid ((B3.out.upto2 (by go_grown)).other g4 (by simp; omega)); have O4 := Lib.hid ((O3.out.up (by go_grown)).kept' g4 (by simp; omega)); have v4 := u4 (by omega); obtain ⟨y, hy⟩ := lit_at [-1, 4294967296] x4 l4 (by simp; omega); have hget : ∀ hi : x4.toNat < [Value.int .i64 (-1), Value.int .i64 4294967296].length, [Value.int .i64 (-1), Value.int .i64 4294967296][x4.toNat]'hi = .int .i64 y := lit_get hy; (first | (have e4c := ((Blk.new w3 3 (ints [-1, 4294967296])).other g4 (by simp; omega)).cell hy) | (have e4c := (E3.out.other g4 (by simp; omega)).cell hy) | skip); clear hy; have hs4 := g4.size; (try simp at hs4); have zb : b ≠ w4.heap.size := (by omega); have zb2 : b < w4.heap.size := (by omega); have zb1 : w1.heap.size ≠ w4.heap.size := (by omega); have z4' : w1.heap.size < w4.heap.size := (by omega); have G4 := Lib.hid (gr_via (w := w) (by (repeat' (first | exact gr_refl _ _ | (with_reducible assumption) | exact Hid.out (by assumption) | refine gr_drew ?_ | refine gr_drewN ?_ _ | refine gr_alloc ?_ _ | refine gr_set ?_ ?_ _ | omega | (simp; omega)))) g4); have D4 := Lib.hid d4; clear d4 g4; have b41 := B4.out.cell (i := 1) rfl; have b40 := B4.out.cell (i := 0) rfl; have a40 := A4.out.cell (i := 0) rfl; have a41 := A4.out.cell (i := 1) rfl; have af4 := A4.out.free; have zb3 : b ≠ w.heap.size := (by omega); have zb4 : b ≠ w1.heap.size := (by omega); have zb5 : w.heap.size < w4.heap.size := (by omega); have zb6 : w.heap.size ≠ w4.heap.size := (by omega); obtain ⟨⟨z4, c4⟩, f4'⟩ := O4.out.cellAt0 x3.toNat (by omega)))
         | (go_simp; (go_at_call_of 63 (Value.int IntKind.i64 4); refine (pick_c g _ _ A n c xs _ (D2.out.upto (by go_grown)) (by omega)).mono ?_; rintro e w3 ⟨_, q3, rfl, ⟨x3, rfl, l3, u3⟩, d3, e3, f3, g3⟩; have A3 := Lib.hid ((A2.out.upto2 (by go_grown)).other g3 (by simp; omega)); have B3 := Lib.hid ((B2.out.upto2 (by go_grown)).other g3 (by simp; omega)); have O3 := Lib.hid ((O2.out.up (by go_grown)).kept' g3 (by simp; omega)); (try have E3 := Lib.hid ((Blk.new w2 3 (ints [-1, 4294967296])).drew.other g3 (by simp; omega))); have hs3 := g3.size; (try simp at hs3); have G3 := Lib.hid (gr_via (w := w) (by (repeat' (first | exact gr_refl _ _ | (with_reducible assumption) | exact Hid.out (by assumption) | refine gr_drew ?_ | refine gr_drewN ?_ _ | refine gr_alloc ?_ _ | refine gr_set ?_ ?_ _ | omega | (simp; omega)))) g3); have D3 := Lib.hid d3; clear d3 g3; have z3 : w1.heap.size < w3.heap.size := (by omega); have v3 := u3 (by omega); have b31 := B3.out.cell (i := 1) rfl)))
      all_goals
        go_wp2_with fail
        go_meet
        first
          | exact ⟨num, _, 4, c1, ys.set x3.toNat y, q4, A4.out.far (by simp; omega) _, B4.out.far (by simp; omega) _, O4.out.put0 x3.toNat y, by omega, D4.out.far (by simp; omega) _, by omega, by omega, gr_set G4.out (.inr (by simp; omega)) _⟩
          | exact ⟨num, _, 4, c1, ys.set x3.toNat y, q4, (A4.out.alloc _).far (by simp; omega) _, (B4.out.alloc _).far (by simp; omega) _, (O4.out.up (Below.alloc (Below.refl _ _) (Nat.le_refl _) _)).put0 x3.toNat y, by omega, (D4.out.upto (Below.alloc (Below.refl _ _) (Nat.le_refl _) _)).far (by simp; omega) _, by omega, by omega, gr_set (gr_alloc G4.out _) (.inr (by simp; omega)) _⟩
          | exact ⟨num, _, 4, c1, ys.set x3.toNat y, q4, (A4.out.far (by simp; omega) _).alloc _, (B4.out.far (by simp; omega) _).alloc _, (O4.out.put0 x3.toNat y).up (Below.alloc (Below.refl _ _) (Nat.le_refl _) _), by omega, (D4.out.far (by simp; omega) _).upto (Below.alloc (Below.refl _ _) (Nat.le_refl _) _), by omega, by omega, gr_alloc (gr_set G4.out (.inr (by simp; omega)) _) _⟩
    have k1 : (x2 == 1) = false := by simpa using h1
    by_cases h2 : x2 = 2
    · subst h2
      go_wp2
      go_meet
      exact ⟨num, some ⟨b, 1, none⟩, 3, c1 - 1, ys.drop 1, q2, A2.out.far (by simp; omega) _, B2.out.set_ 1 _, (O2.out.far' (by simp; omega) _).tail, by omega, D2.out.far (by simp; omega) _, by omega, by omega, gr_set G2.out (.inr (by simp; omega)) _⟩
    have k2 : (x2 == 2) = false := by simpa using h2
    by_cases h3 : x2 = 3
    · subst h3
      have hown2 : w2.ownsRow (w.heap.size + 1) 3 1 (.slice (some ⟨b, 0, none⟩) 4 c1) 4 (ints ys) := by
        have h1 := own_up HO1.out (w' := w1.alloc (.cells #[.int .i64 num, .slice (some ⟨b, 0, none⟩) 4 c1] 28)) (Below.alloc (Below.refl _ _) (Nat.le_refl _) _)
        have h2 := h1.kept G12.out (by right; simp [Value.ownBlock]; omega)
        exact own_base h2 (by simp)
      have HO2 := Lib.hid hown2
      clear hown2
      go_wp2_with (at_builtin; refine wpList_append_lies _ rfl _ _ _ rfl (w.heap.size + 1) 3 i0 _ 1 8 Tryd.underlying26 hi0 hz0 hz1 hz2 rfl (by omega) (.slice (some ⟨b, 0, none⟩) 4 c1) 4 (ints ys) rfl (HO2.out.alloc _) ⟨w2.heap.size, 0, none⟩ 1 1 [.int .i64 0] rfl rfl (cell_one_new _ _ _) (by simp [Value.oneCell']) (by omega) (by unfold maxLen; omega) (by omega) (by simp; omega) _ rfl ?_; intro gg cap w5 hown5 hgr5 hat5 hlt5; have A5 := Lib.hid ((A2.out.alloc _).other hgr5 (by simp [Value.ownBlock]; omega)); have B5 := Lib.hid ((B2.out.alloc _).other hgr5 (by simp [Value.ownBlock]; omega)); have hs5 := hgr5.size; simp at hs5; have D5 := Lib.hid ((D2.out.upto (Below.alloc (Below.refl _ _) (Nat.le_refl _) _)).other hgr5 (fun b' e => by simp [Value.ownBlock] at e; omega)); have G5 := Lib.hid (gr_grown (gr_alloc G2.out _) hgr5 (fun b' e => by simp [Value.ownBlock] at e; omega)); have hgg : w1.heap.size ≠ gg ∧ w.heap.size ≠ gg := (by rcases hat5 with h | h <;> simp [Value.ownBlock] at h <;> omega); have O5 := Lib.hid (Ow.of_own (c := cap) (xs := ys ++ [0]) (by simpa [ints] using hown5)); clear hown5 hgr5 hat5; clear b0 b1 bf a0 a1 af; have b0 := B5.out.cell (i := 0) rfl; have b1 := B5.out.cell (i := 1) rfl; have bf := B5.out.free)
      go_meet
      exact ⟨num, some ⟨gg, 0, none⟩, 5, cap, ys ++ [0], q2, A5.out.far (by simp; omega) _, B5.out.set_ 1 _, O5.out.far' (by simp; omega) _, by omega, D5.out.far (by simp; omega) _, by omega, by omega, gr_set G5.out (.inr (by simp; omega)) _⟩
    have k3 : (x2 == 3) = false := by simpa using h3
    go_wp2
    go_meet
    exact ⟨num, _, 4, c1, ys, q2, A2, B2, O2, by omega, D2, by omega, by omega, G2⟩
  case rest =>
    obtain ⟨num', A', n', c', zs, q, HA, HB, HO, hn', HD, hq1, hq2, HG⟩ := hcut
    clear b0 b1 bf a0 a1 af
    have b0 := HB.out.cell (i := 0) rfl
    have b1 := HB.out.cell (i := 1) rfl
    have a0 := HA.out.cell (i := 0) rfl
    have a1 := HA.out.cell (i := 1) rfl
    have af := HA.out.free
    go_wp2
    refine bodyPost_ret (v := .agg #[.int .i64 num', .slice A' n' c']) (by simp [results, Tryd.results64, go_sem, a0, a1, hne]) rfl ?_
    go_light
    exact ⟨_, q, rfl, ⟨num', A', n', c', zs, rfl, ((HO.out.far (p := ⟨w.heap.size, 0, none⟩) (by simp) (.int .i64 num')).far (p := ⟨w.heap.size, 1, none⟩) (by simp) (.slice A' n' c')).low (by omega), hn'⟩,
      HD.out.setCells w.heap.size 0 (by omega) [.int .i64 num', .slice A' n' c'], by omega, by omega,
      gr_setCells HG.out w.heap.size 0 (Nat.le_refl _) [.int .i64 num', .slice A' n' c']⟩
end Go.Proofs.YtljgaepgblakhaaDoor
