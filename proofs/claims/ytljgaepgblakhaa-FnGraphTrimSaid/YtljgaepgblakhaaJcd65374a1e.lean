/- Drawn graphs: the walk of l11Graph. Conditions: each contract's own. -/
import Derived.Test.YtljgaepgblakhaaDrawPol
import Derived.Test.YtljgaepgblakhaaJ4d074fd43d
import Derived.Test.YtljgaepgblakhaaJe8c7e429b6
import Derived.Test.YtljgaepgblakhaaJb67ece72df
namespace Go.Proofs.Ytljgaepgblakhaa
set_option linter.unusedSimpArgs false
open Go.RowKit
set_option linter.unusedVariables false
set_option linter.unnecessarySimpa false
set_option maxRecDepth 20000
set_option maxHeartbeats 8000000 in
set_option maxRecDepth 100000 in
theorem l11Graph_c (g : Nat) (p : Int) (A : Option Addr) (n c : Nat) (xs : List Int) (w : World) (h : Dr w g 51 p A n c xs) (hp : p ≤ 1099511590000) :
    Calls Try.prog 13 #[.pointer (some ⟨g, 0, none⟩)] w (RetDraw (PtsIs 29 w.heap.size 120) g 51 p 1010 A n c xs w) := by
  obtain ⟨i0, hi0, hz0, hz1, hz2⟩ := info_parts info_point
  have hlow := h.low
  have hgl := h.blk.lt
  have D0 := Lib.hid h
  clear h
  go_enter Try.func13, Try.ntmps13
  (go_wp2_with fail); (go_at_call 14; refine (pick_c g _ _ A n c xs _ (D0.out.upto (by go_grown)) (by omega)).mono ?_; rintro e w1 ⟨_, q1, rfl, ⟨x1, rfl, l1, u1⟩, d1, e1, f1, g1⟩; obtain ⟨gc1, gf1⟩ := grown_get g1; (try simp only [heap_drew, World.size_alloc, World.size_setCell] at gc1 gf1); have hs1 := g1.size; (try simp at hs1); have G1 := Lib.hid (gr_via (w := w) (by (repeat' (first | exact gr_refl _ _ | (with_reducible assumption) | exact Hid.out (by assumption) | refine gr_drew ?_ | refine gr_drewN ?_ _ | refine gr_alloc ?_ _ | refine gr_set ?_ ?_ _ | omega | (simp; omega)))) g1); clear g1; have D1 := Lib.hid d1; clear d1)
  have v1 := u1 (by omega)
  clear u1 gc1 gf1
  by_cases hx : x1 = 0
  · subst hx
    (go_wp2_with fail); (go_at_call 25; refine (drawPolicy_c g _ A n c xs 4 3 _ D1.out (by omega) (by omega) (by omega)).mono ?_; rintro e w2 ⟨_, q2, rfl, ⟨A2, n2, c2, qs, y2, rfl, o2, hn2, hl2⟩, d2, e2, f2, g2⟩; have R2 := Lib.hid o2.rd; obtain ⟨gc2, gf2⟩ := grown_get g2; (try simp only [heap_drew, World.size_alloc, World.size_setCell] at gc2 gf2); have hs2 := g2.size; (try simp at hs2); have G2 := Lib.hid (gr_via (w := w) (by (repeat' (first | exact gr_refl _ _ | (with_reducible assumption) | exact Hid.out (by assumption) | refine gr_drew ?_ | refine gr_drewN ?_ _ | refine gr_alloc ?_ _ | refine gr_set ?_ ?_ _ | omega | (simp; omega)))) g2); clear g2; have D2 := Lib.hid d2; clear d2)
    have hrl := R2.out.1
    generalize rls qs = rs at *
    subst hrl
    clear gc2 gf2 o2 hl2
    have hml := makeR_le ⟨rs, y2⟩
    have HM := Lib.hid (fun W h => specGraphMake_c A2 c2 rs y2 W h (by omega))
    generalize makeR ⟨rs, y2⟩ = R at *
    obtain ⟨z, hz⟩ : ∃ z, R.length = z := ⟨_, rfl⟩
    rw [hz] at HM hml
    (go_wp2_with fail); (go_at_call 24; refine (HM.out _ (R2.out.upB (by go_grown) (by go_size))).mono ?_; rintro e w3 ⟨A3, c3, rfl, o3, b3⟩; have O3 := Lib.hid o3; have B3 := Lib.hid b3; clear o3 b3)
    go_wp2
    go_returns
    have hs3 := B3.out.size
    exact ⟨_, q2, rfl, ⟨A3, z, c3, R, rfl, own_base O3.out (by omega), hml⟩, D2.out.upto B3.out, by omega, by omega, gr_via G2.out ⟨B3.out.os, B3.out.tape, B3.out.output, B3.out.size, fun i hi _ => B3.out.block i hi⟩⟩
  · have k0 : (x1 == 0) = false := by simpa using hx
    (go_wp2_with fail); (go_at_call 14; refine (pick_c g _ _ A n c xs _ D1.out (by omega)).mono ?_; rintro e w2 ⟨_, q2, rfl, ⟨x2, rfl, l2, u2⟩, d2, e2, f2, g2⟩; obtain ⟨gc2, gf2⟩ := grown_get g2; (try simp only [heap_drew, World.size_alloc, World.size_setCell] at gc2 gf2); have hs2 := g2.size; (try simp at hs2); have G2 := Lib.hid (gr_via (w := w) (by (repeat' (first | exact gr_refl _ _ | (with_reducible assumption) | exact Hid.out (by assumption) | refine gr_drew ?_ | refine gr_drewN ?_ _ | refine gr_alloc ?_ _ | refine gr_set ?_ ?_ _ | omega | (simp; omega)))) g2); clear g2; have D2 := Lib.hid d2; clear d2)
    have v2 := u2 (by omega)
    (go_wp2_with fail); (go_at_call 14; refine (pick_c g _ _ A n c xs _ D2.out (by omega)).mono ?_; rintro e w3 ⟨_, q3, rfl, ⟨x3, rfl, l3, u3⟩, d3, e3, f3, g3⟩; obtain ⟨gc3, gf3⟩ := grown_get g3; (try simp only [heap_drew, World.size_alloc, World.size_setCell] at gc3 gf3); have hs3 := g3.size; (try simp at hs3); have G3 := Lib.hid (gr_via (w := w) (by (repeat' (first | exact gr_refl _ _ | (with_reducible assumption) | exact Hid.out (by assumption) | refine gr_drew ?_ | refine gr_drewN ?_ _ | refine gr_alloc ?_ _ | refine gr_set ?_ ?_ _ | omega | (simp; omega)))) g3); clear g3; have D3 := Lib.hid d3; clear d3)
    have v3 := u3 (by omega)
    clear u2 u3 gc2 gf2 gc3 gf3
    have hW2 : IntKind.i64.wrap (1 + x2) = 1 + x2 := IntWalk.i64_in _ (by omega)
    have hW3 : IntKind.i64.wrap (1 + x3) = 1 + x3 := IntWalk.i64_in _ (by omega)
    have O4 : Hid ((w3.alloc (.cells (pts [leafP (1 + x2), leafP (1 + x3)]).toArray 29)).ownsRow w.heap.size 29 7 (.slice (some ⟨w3.heap.size, 0, none⟩) 2 2) 2 (pts [leafP (1 + x2), leafP (1 + x3)])) :=
      Lib.hid ⟨by simp [pts_len], .inr ⟨w3.heap.size, 2, _, rfl, by omega, heap_alloc_new w3 _, by omega, by unfold maxLen; omega, by simp [pts_len], by simp [pts, Pt.cells]⟩⟩
    (go_wp2_with fail); (go_at_call 14; refine (pick_c g _ _ A n c xs _ (D3.out.upto (by go_grown)) (by omega)).mono ?_; rintro e w4 ⟨_, q4, rfl, ⟨x4, rfl, l4, u4⟩, d4, e4, f4, g4⟩; have O5 := Lib.hid (O4.out.kept g4 (.inr (by simp [Value.ownBlock]; omega))); clear O4; have hs4 := g4.size; (try simp at hs4); have G4 := Lib.hid (gr_via (w := w) (by (repeat' (first | exact gr_refl _ _ | (with_reducible assumption) | exact Hid.out (by assumption) | refine gr_drew ?_ | refine gr_drewN ?_ _ | refine gr_alloc ?_ _ | refine gr_set ?_ ?_ _ | omega | (simp; omega)))) g4); have D4 := Lib.hid d4; clear d4 g4)
    have v4 := u4 (by omega)
    clear u4
    obtain ⟨N, rfl⟩ := Int.eq_ofNat_of_zero_le l4
    go_wp2_with fail
    go_loopg [3, 4] N (fun gk s i wr => ∃ (m : Nat) (S : Option Addr) (cs : Nat) (ps : List Pt) (q : Int), m + gk = N + 2 ∧ i = .int .i64 gk ∧ s = .slice S m cs ∧ Hid (wr.ownsRow w.heap.size 29 7 (.slice S m cs) m (pts ps)) ∧
        Hid (Dr wr g 51 q A n c xs) ∧ p ≤ q ∧ q ≤ p + 4 + 50 * m ∧ Hid (w.grownBy wr (some g)))
    case atStart => exact ⟨2, _, 2, _, q4, by omega, rfl, rfl, O5, D4, by omega, by omega, G4⟩
    case round =>
      obtain ⟨m, S, cs, ps, q, hgk, rfl, rfl, HO, HD, hq1, hq2, HG⟩ := hrel
      have hd0 := HD.out.low
      by_cases hk : gk = 0
      · subst hk
        go_wp2
        go_returns
        exact ⟨_, q, rfl, ⟨S, m, cs, ps, rfl, HO.out, by omega⟩, HD.out, by omega, by omega, HG.out⟩
      · obtain ⟨gk, rfl⟩ : ∃ j, gk = j + 1 := ⟨gk - 1, by omega⟩
        have hsz := HG.out.size
        go_wp2_with fail
        refine wp_region_invS [some 27, some 28, some 29, some 30, some 31, some 32, some 33, some 34, some 35, some 36, some 37, some 38, some 39, some 40, some 41, some 42, some 43, some 44, some 45, some 46, some 47, some 48, some 49, some 5, none] (PW g 51 q A n c xs wr) (PV 3 29 g wr.heap.size m cs S) (by kernel_rfl) (by kernel_rfl) ⟨q, HD.out.drewN 1, by omega, by omega, gr_drew (gr_refl _ _)⟩ ?_ ?_
        · simp only [setAll, putS, List.zipIdx_cons, List.zipIdx_nil, List.foldl_cons, List.foldl_nil, Nat.reduceAdd, List.setIfInBounds_toArray, List.set_cons_zero, List.set_cons_succ]
          refine ⟨⟨rfl, fun u w0 c0 hc0 hW hd K hK => ?_⟩, ?_⟩
          · have hc0 : c0 < 25 := hc0
            go_simp
            refine ka (hK _ _ hW.more (fun _ _ h => h) (rfl)) ?_
            simp [updU, *]
          refine ⟨⟨rfl, fun u w0 c0 hc0 hW hd K hK => ?_⟩, ?_⟩
          · have hc0 : c0 < 25 := hc0
            have h0 : u 0 = .pointer (some ⟨g, 0, none⟩) := hd 0 (of_decide_eq_true (by kernel_rfl))
            obtain ⟨q0, hD, hq3, hq4, hG3⟩ := hW
            go_simp
            (go_at_call 14; refine (pick_c g _ _ A n c xs _ hD (by omega)).mono ?_; rintro e w5 ⟨_, q5, rfl, ⟨x5, rfl, l5, u5⟩, d5, e5, f5, g5⟩; (refine ka (hK _ _ ⟨q5, d5, by omega, by omega, gr_via hG3 g5⟩ (fun j x => PV.gr g5 j x) (⟨x5, rfl⟩)) ?_); (simp [updU, *]))
          refine ⟨⟨rfl, fun u w0 c0 hc0 hW hd K hK => ?_⟩, ?_⟩
          · have hc0 : c0 < 25 := hc0
            obtain ⟨q0, hD, hq3, hq4, hG3⟩ := hW
            go_simp
            have k5 : w0.grownBy (w0.alloc (.cells #[.int .i64 4294967295, .int .i64 3, .int .i64 15] 3)) (some g) := gr_alloc (gr_refl _ _) _
            refine ka (hK _ _ ⟨q0, hD.upto (by go_grown), by omega, by omega, gr_via hG3 k5⟩ (fun j x => PV.gr k5 j x) (⟨w0.heap.size, rfl, hG3.size, by have := hD.blk.lt; omega, Blk.new w0 3 (ints [4294967295, 3, 15])⟩)) ?_
            simp [updU, *]
          refine ⟨⟨rfl, fun u w0 c0 hc0 hW hd K hK => ?_⟩, ?_⟩
          · have hc0 : c0 < 25 := hc0
            go_simp
            refine ka (hK _ _ hW.more (fun _ _ h => h) (rfl)) ?_
            simp [updU, *]
          refine ⟨⟨rfl, fun u w0 c0 hc0 hW hd K hK => ?_⟩, ?_⟩
          · have hc0 : c0 < 25 := hc0
            have h0 : u 3 = .pointer (some ⟨g, 0, none⟩) := hd 3 (of_decide_eq_true (by kernel_rfl))
            obtain ⟨q0, hD, hq3, hq4, hG3⟩ := hW
            go_simp
            (go_at_call 14; refine (pick_c g _ _ A n c xs _ hD (by omega)).mono ?_; rintro e w5 ⟨_, q5, rfl, ⟨x5, rfl, l5, u5⟩, d5, e5, f5, g5⟩; (refine ka (hK _ _ ⟨q5, d5, by omega, by omega, gr_via hG3 g5⟩ (fun j x => PV.gr g5 j x) (⟨x5, rfl, l5, u5 (by omega)⟩)) ?_); (simp [updU, *]))
          refine ⟨⟨rfl, fun u w0 c0 hc0 hW hd K hK => ?_⟩, ?_⟩
          · have hc0 : c0 < 25 := hc0
            obtain ⟨b, hb, hb1, hb2, hb3⟩ := (show LitIs 3 g wr.heap.size 3 [4294967295, 3, 15] (u 2) w0 from hd 2 (of_decide_eq_true (by kernel_rfl)))
            obtain ⟨y, hy, hy0, hy1⟩ := (show NumIn 3 (u 4) from hd 4 (of_decide_eq_true (by kernel_rfl)))
            go_simp
            obtain ⟨z, hz, _⟩ := lit_atG [4294967295, 3, 15] y (by omega) (by simp; omega)
            refine ka (hK _ _ hW.more (fun _ _ h => h) (⟨b, y.toNat, _, z, by first | rfl | simp, hb1, hb2, hb3, hz⟩)) ?_
            simp [updU, *]
          refine ⟨⟨rfl, fun u w0 c0 hc0 hW hd K hK => ?_⟩, ?_⟩
          · have hc0 : c0 < 25 := hc0
            obtain ⟨b, o, l, z, hb, hb1, hb2, hb3, hb4⟩ := (show LitAt 3 g wr.heap.size (u 5) w0 from hd 5 (of_decide_eq_true (by kernel_rfl)))
            have hc3 := hb3.cell hb4
            go_simp
            refine ka (hK _ _ hW.more (fun _ _ h => h) (⟨z, rfl⟩)) ?_
            simp [updU, *]
          refine ⟨⟨rfl, fun u w0 c0 hc0 hW hd K hK => ?_⟩, ?_⟩
          · have hc0 : c0 < 25 := hc0
            obtain ⟨q0, hD, hq3, hq4, hG3⟩ := hW
            go_simp
            have k5 : w0.grownBy (w0.alloc (.cells #[.int .i64 1, .int .i64 3] 3)) (some g) := gr_alloc (gr_refl _ _) _
            refine ka (hK _ _ ⟨q0, hD.upto (by go_grown), by omega, by omega, gr_via hG3 k5⟩ (fun j x => PV.gr k5 j x) (⟨w0.heap.size, rfl, hG3.size, by have := hD.blk.lt; omega, Blk.new w0 3 (ints [1, 3])⟩)) ?_
            simp [updU, *]
          refine ⟨⟨rfl, fun u w0 c0 hc0 hW hd K hK => ?_⟩, ?_⟩
          · have hc0 : c0 < 25 := hc0
            go_simp
            refine ka (hK _ _ hW.more (fun _ _ h => h) (rfl)) ?_
            simp [updU, *]
          refine ⟨⟨rfl, fun u w0 c0 hc0 hW hd K hK => ?_⟩, ?_⟩
          · have hc0 : c0 < 25 := hc0
            have h0 : u 8 = .pointer (some ⟨g, 0, none⟩) := hd 8 (of_decide_eq_true (by kernel_rfl))
            obtain ⟨q0, hD, hq3, hq4, hG3⟩ := hW
            go_simp
            (go_at_call 14; refine (pick_c g _ _ A n c xs _ hD (by omega)).mono ?_; rintro e w5 ⟨_, q5, rfl, ⟨x5, rfl, l5, u5⟩, d5, e5, f5, g5⟩; (refine ka (hK _ _ ⟨q5, d5, by omega, by omega, gr_via hG3 g5⟩ (fun j x => PV.gr g5 j x) (⟨x5, rfl, l5, u5 (by omega)⟩)) ?_); (simp [updU, *]))
          refine ⟨⟨rfl, fun u w0 c0 hc0 hW hd K hK => ?_⟩, ?_⟩
          · have hc0 : c0 < 25 := hc0
            obtain ⟨b, hb, hb1, hb2, hb3⟩ := (show LitIs 3 g wr.heap.size 2 [1, 3] (u 7) w0 from hd 7 (of_decide_eq_true (by kernel_rfl)))
            obtain ⟨y, hy, hy0, hy1⟩ := (show NumIn 2 (u 9) from hd 9 (of_decide_eq_true (by kernel_rfl)))
            go_simp
            obtain ⟨z, hz, _⟩ := lit_atG [1, 3] y (by omega) (by simp; omega)
            refine ka (hK _ _ hW.more (fun _ _ h => h) (⟨b, y.toNat, _, z, by first | rfl | simp, hb1, hb2, hb3, hz⟩)) ?_
            simp [updU, *]
          refine ⟨⟨rfl, fun u w0 c0 hc0 hW hd K hK => ?_⟩, ?_⟩
          · have hc0 : c0 < 25 := hc0
            obtain ⟨b, o, l, z, hb, hb1, hb2, hb3, hb4⟩ := (show LitAt 3 g wr.heap.size (u 10) w0 from hd 10 (of_decide_eq_true (by kernel_rfl)))
            have hc3 := hb3.cell hb4
            go_simp
            refine ka (hK _ _ hW.more (fun _ _ h => h) (⟨z, rfl⟩)) ?_
            simp [updU, *]
          refine ⟨⟨rfl, fun u w0 c0 hc0 hW hd K hK => ?_⟩, ?_⟩
          · have hc0 : c0 < 25 := hc0
            go_simp
            refine ka (hK _ _ hW.more (fun _ _ h => h) (rfl)) ?_
            simp [updU, *]
          refine ⟨⟨rfl, fun u w0 c0 hc0 hW hd K hK => ?_⟩, ?_⟩
          · have hc0 : c0 < 25 := hc0
            have h0 : u 12 = .pointer (some ⟨g, 0, none⟩) := hd 12 (of_decide_eq_true (by kernel_rfl))
            obtain ⟨q0, hD, hq3, hq4, hG3⟩ := hW
            go_simp
            (go_at_call 14; refine (pick_c g _ _ A n c xs _ hD (by omega)).mono ?_; rintro e w5 ⟨_, q5, rfl, ⟨x5, rfl, l5, u5⟩, d5, e5, f5, g5⟩; (refine ka (hK _ _ ⟨q5, d5, by omega, by omega, gr_via hG3 g5⟩ (fun j x => PV.gr g5 j x) (⟨x5, rfl⟩)) ?_); (simp [updU, *]))
          refine ⟨⟨rfl, fun u w0 c0 hc0 hW hd K hK => ?_⟩, ?_⟩
          · have hc0 : c0 < 25 := hc0
            go_simp
            refine ka (hK _ _ hW.more (fun _ _ h => h) (rfl)) ?_
            simp [updU, *]
          refine ⟨⟨rfl, fun u w0 c0 hc0 hW hd K hK => ?_⟩, ?_⟩
          · have hc0 : c0 < 25 := hc0
            go_simp
            refine ka (hK _ _ hW.more (fun _ _ h => h) (rfl)) ?_
            simp [updU, *]
          refine ⟨⟨rfl, fun u w0 c0 hc0 hW hd K hK => ?_⟩, ?_⟩
          · have hc0 : c0 < 25 := hc0
            have h0 : u 15 = .slice S m cs := hd 15 (of_decide_eq_true (by kernel_rfl))
            go_simp
            refine ka (hK _ _ hW.more (fun _ _ h => h) (rfl)) ?_
            simp [updU, *]
          refine ⟨⟨rfl, fun u w0 c0 hc0 hW hd K hK => ?_⟩, ?_⟩
          · have hc0 : c0 < 25 := hc0
            have h0 : u 14 = .pointer (some ⟨g, 0, none⟩) := hd 14 (of_decide_eq_true (by kernel_rfl))
            have h1 : u 16 = .int .i64 m := hd 16 (of_decide_eq_true (by kernel_rfl))
            obtain ⟨q0, hD, hq3, hq4, hG3⟩ := hW
            go_simp
            (go_at_call 14; refine (pick_c g _ _ A n c xs _ hD (by omega)).mono ?_; rintro e w5 ⟨_, q5, rfl, ⟨x5, rfl, l5, u5⟩, d5, e5, f5, g5⟩; (refine ka (hK _ _ ⟨q5, d5, by omega, by omega, gr_via hG3 g5⟩ (fun j x => PV.gr g5 j x) (⟨x5, rfl⟩)) ?_); (simp [updU, *]))
          refine ⟨⟨rfl, fun u w0 c0 hc0 hW hd K hK => ?_⟩, ?_⟩
          · have hc0 : c0 < 25 := hc0
            go_simp
            refine ka (hK _ _ hW.more (fun _ _ h => h) (rfl)) ?_
            simp [updU, *]
          refine ⟨⟨rfl, fun u w0 c0 hc0 hW hd K hK => ?_⟩, ?_⟩
          · have hc0 : c0 < 25 := hc0
            go_simp
            refine ka (hK _ _ hW.more (fun _ _ h => h) (rfl)) ?_
            simp [updU, *]
          refine ⟨⟨rfl, fun u w0 c0 hc0 hW hd K hK => ?_⟩, ?_⟩
          · have hc0 : c0 < 25 := hc0
            have h0 : u 19 = .slice S m cs := hd 19 (of_decide_eq_true (by kernel_rfl))
            go_simp
            refine ka (hK _ _ hW.more (fun _ _ h => h) (rfl)) ?_
            simp [updU, *]
          refine ⟨⟨rfl, fun u w0 c0 hc0 hW hd K hK => ?_⟩, ?_⟩
          · have hc0 : c0 < 25 := hc0
            have h0 : u 18 = .pointer (some ⟨g, 0, none⟩) := hd 18 (of_decide_eq_true (by kernel_rfl))
            have h1 : u 20 = .int .i64 m := hd 20 (of_decide_eq_true (by kernel_rfl))
            obtain ⟨q0, hD, hq3, hq4, hG3⟩ := hW
            go_simp
            (go_at_call 14; refine (pick_c g _ _ A n c xs _ hD (by omega)).mono ?_; rintro e w5 ⟨_, q5, rfl, ⟨x5, rfl, l5, u5⟩, d5, e5, f5, g5⟩; (refine ka (hK _ _ ⟨q5, d5, by omega, by omega, gr_via hG3 g5⟩ (fun j x => PV.gr g5 j x) (⟨x5, rfl⟩)) ?_); (simp [updU, *]))
          refine ⟨⟨rfl, fun u w0 c0 hc0 hW hd K hK => ?_⟩, ?_⟩
          · have hc0 : c0 < 25 := hc0
            obtain ⟨a1, ha1⟩ := (show NumIs (u 1) from hd 1 (of_decide_eq_true (by kernel_rfl)))
            obtain ⟨a2, ha2⟩ := (show NumIs (u 6) from hd 6 (of_decide_eq_true (by kernel_rfl)))
            obtain ⟨a3, ha3⟩ := (show NumIs (u 11) from hd 11 (of_decide_eq_true (by kernel_rfl)))
            obtain ⟨a4, ha4⟩ := (show NumIs (u 13) from hd 13 (of_decide_eq_true (by kernel_rfl)))
            obtain ⟨a5, ha5⟩ := (show NumIs (u 17) from hd 17 (of_decide_eq_true (by kernel_rfl)))
            obtain ⟨a6, ha6⟩ := (show NumIs (u 21) from hd 21 (of_decide_eq_true (by kernel_rfl)))
            go_simp
            refine ka (hK _ _ hW.more (fun _ _ h => h) (⟨⟨0, a1, a2, a3, a4, a5, a6⟩, rfl⟩)) ?_
            simp [updU, ptV, *]
          refine ⟨⟨rfl, fun u w0 c0 hc0 hW hd K hK => ?_⟩, ?_⟩
          · have hc0 : c0 < 25 := hc0
            obtain ⟨q0, hD, hq3, hq4, hG3⟩ := hW
            go_simp
            have k5 : w0.grownBy (w0.alloc (.cells (Pt.cells ⟨0, 0, 0, 0, 0, 0, 0⟩).toArray 29)) (some g) := gr_alloc (gr_refl _ _) _
            refine ka (hK _ _ ⟨q0, hD.upto (by go_grown), by omega, by omega, gr_via hG3 k5⟩ (fun j x => PV.gr k5 j x) (⟨w0.heap.size, ⟨0, 0, 0, 0, 0, 0, 0⟩, rfl, hG3.size, by have := hD.blk.lt; omega, Blk.new w0 29 _⟩)) ?_
            simp [updU, *]
          refine ⟨⟨rfl, fun u w0 c0 hc0 hW hd K hK => ?_⟩, ?_⟩
          · have hc0 : c0 < 25 := hc0
            obtain ⟨b, pt0, hb, hb1, hb2, hb3⟩ := (show VarIs 29 g wr.heap.size (u 23) w0 from hd 23 (of_decide_eq_true (by kernel_rfl)))
            obtain ⟨pt, hp⟩ := (show ∃ pt, u 22 = ptV pt from hd 22 (of_decide_eq_true (by kernel_rfl)))
            obtain ⟨y0, y1, y2, y3, y4, y5, y6⟩ := pt
            unfold ptV at hp
            obtain ⟨q0, hD, hq3, hq4, hG3⟩ := hW
            have c0_ := hb3.cell (i := 0) rfl
            have c1 := hb3.cell (i := 1) rfl
            have c2 := hb3.cell (i := 2) rfl
            have c3 := hb3.cell (i := 3) rfl
            have c4 := hb3.cell (i := 4) rfl
            have c5 := hb3.cell (i := 5) rfl
            have c6 := hb3.cell (i := 6) rfl
            have cf := hb3.free
            go_simp
            have k5 : wr.grownBy (setCells w0 b 0 (Pt.cells ⟨y0, y1, y2, y3, y4, y5, y6⟩)) (some g) := gr_setCells hG3 b 0 hb1 _
            have hk := hK undef _ ⟨q0, hD.setCells b 0 (by omega) (Pt.cells ⟨y0, y1, y2, y3, y4, y5, y6⟩), by omega, by omega, k5⟩ (fun j x h => PV.set (by decide) hb3 h) trivial
            simp only [setCells, Pt.cells, Nat.zero_add, Nat.reduceAdd] at hk
            refine ka hk ?_
            simp [updU, *]
          exact trivial
        · intro u w5 hW hV
          obtain ⟨b, pt, hb, hb1, hb2, hb3⟩ := (show VarIs 29 g wr.heap.size (u 23) w5 from hV 23 (by decide))
          obtain ⟨q5, hD5, hq5, hq6, hG5⟩ := hW
          simp only [setAll, putS, List.zipIdx_cons, List.zipIdx_nil, List.foldl_cons, List.foldl_nil, Nat.reduceAdd, List.setIfInBounds_toArray, List.set_cons_zero, List.set_cons_succ]
          rw [hb]
          have hq6 : q5 ≤ q + 25 := hq6
          have HX := Lib.hid hb3
          have x0 := HX.out.cell (i := 0) rfl
          have x1_ := HX.out.cell (i := 1) rfl
          have x2_ := HX.out.cell (i := 2) rfl
          have x3_ := HX.out.cell (i := 3) rfl
          have x4_ := HX.out.cell (i := 4) rfl
          have x5_ := HX.out.cell (i := 5) rfl
          have x6_ := HX.out.cell (i := 6) rfl
          have O5 := Lib.hid (own_gr HO.out hG5 hgl)
          have D5 := Lib.hid hD5
          have G5 := Lib.hid (gr_via HG.out hG5)
          have hs5 := hG5.size
          clear hV hb hb3 hD5 hG5
          go_wp2_with (at_builtin; refine wpList_append_lies _ rfl _ _ 23 rfl w.heap.size 29 i0 _ 7 56 Try.underlying23 hi0 hz0 hz1 hz2 rfl (by omega) (.slice S m cs) m (pts ps) rfl (O5.out.alloc _) ⟨w5.heap.size, 0, none⟩ 1 1 (Pt.cells pt) rfl rfl (seven_cells w5 29 w5.heap.size pt rfl) (by simp [Pt.cells, Value.oneCell']) (by omega) (by unfold maxLen; omega) (by omega) (by simp; omega) _ rfl ?_; intro gg capg w6 hown6 hgr6 hat6 hlt6)
          have O6 := Lib.hid hown6
          rw [← pts_add] at O6
          have D6 := Lib.hid ((D5.out.upto (Below.alloc (Below.refl _ _) (Nat.le_refl _) _)).other hgr6 (fun b e => by have := (O5.out.lt b e).1; omega))
          have G6 := Lib.hid (gr_grown (gr_alloc G5.out _) hgr6 (fun b e => .inr (by have := (O5.out.lt b e).1; omega)))
          clear hown6 hgr6 hat6
          go_roundg gk
          case measure => omega
          case rel =>
            go_light
            exact ⟨m + 1, _, capg, ps ++ [pt], q5, by omega, by go_num, rfl, O6, D6, by omega, by omega, G6⟩
end Go.Proofs.Ytljgaepgblakhaa
