/- DrawTestHolds. Conditions: its own. -/
import Derived.Test.YtbijlencoilchaaDraw4
import Derived.Test.YtbijlencoilchaaDraw5
namespace Go.Proofs.Ytbijlencoilchaa
open Go.RowKit
set_option linter.unusedVariables false
set_option linter.unnecessarySimpa false
/-- The call returns a test and a call of its own. -/
def RetTestCall (w : World) (e : Ending) (w' : World) : Prop :=
  ∃ f m op x num A n c zs, e = .returned (.tuple #[testV f m op x, .agg #[.int .i64 num, .slice A n c]]) ∧ Ow w' w.heap.size A n zs ∧ n ≤ 5 ∧ Below w.heap.size w w'
theorem Ow.drew {w : World} {B n : Nat} {A : Option Addr} {xs : List Int} (h : Ow w B A n xs) : Ow w.drew B A n xs := h
set_option maxRecDepth 100000 in
set_option maxHeartbeats 1600000 in
theorem drawTestHolds_c (A : Option Addr) (n c : Nat) (xs : List Int) (w : World) (hr : Rd w w.heap.size 1 A n (u8s xs)) (hx : ∀ x ∈ xs, 0 ≤ x ∧ x ≤ 255) (hc : n ≤ c) (hc2 : c ≤ 9223372036854775807) :
    Calls Try.prog 28 #[.slice A n c] w (RetTestCall w) := by
  have HR := Lib.hid hr
  have HX := Lib.hid hx
  clear hr hx
  have hA := Lib.hid ((Blk.new w 49 [.int .i64 0, .int .i64 0, .int .i64 0, .int .i64 0]))
  have hB := Lib.hid ((Blk.new (w.alloc (.cells #[.int .i64 0, .int .i64 0, .int .i64 0, .int .i64 0] 49)) 35 [.int .i64 0, .slice none 0 0]))
  go_enter Try.func28, Try.ntmps28
  (go_wp2_with fail)
  go_at_call 54
  refine (l1Open_c A n c xs _ (HR.out.upB (by go_grown) (by go_size)) HX.out hc hc2).mono ?_
  rintro e w1 ⟨n1, c1, xs1, rfl, d1, b1, z1⟩
  have A1 := Lib.hid ((hA.out.alloc _).up b1)
  have hB1 := hB.out.up b1
  simp only [World.size_alloc] at hB1
  have B1 := Lib.hid hB1
  have H1 := below_via (w := w) (by go_grown) b1
  simp only [World.size_alloc] at d1 z1
  obtain ⟨g, hg⟩ : ∃ g, g = w.heap.size + 1 + 1 := ⟨_, rfl⟩
  rw [← hg] at d1 z1
  have D1 := Lib.hid d1
  have hgl : w.heap.size + 1 < g := by omega
  clear d1 b1 hA hB hB1
  (go_wp2_with fail)
  simp only [World.size_alloc, ← hg]
  clear hg
  go_at_call 55
  refine (drawAnyTest_c g _ A n1 c1 xs1 _ D1.out (by omega)).mono ?_
  rintro e w2 ⟨_, q2, rfl, ⟨f, m, op, x, rfl⟩, d2, e2, f2, g2⟩
  have A2 := Lib.hid (A1.out.other g2 (by simp; omega))
  have B2 := Lib.hid (B1.out.other g2 (by simp; omega))
  have D2 := Lib.hid d2
  have hs2 := g2.size
  have G2 := Lib.hid g2
  unfold testV
  clear d2 g2
  have hC := Lib.hid (Blk.new w2 49 [.int .i64 f, .int .i64 m, .int .i64 op, .int .i64 x])
  (go_wp2_with fail)
  go_at_call 56
  refine (drawAnyCall_c g _ A n1 c1 xs1 _ (D2.out.upto (by go_grown)) (by omega)).mono ?_
  rintro e w3 ⟨_, q3, rfl, ⟨num, A3, n3, c3, zs, rfl, O3, hn3⟩, d3, e3, f3, g3⟩
  have A3' := Lib.hid ((A2.out.alloc _).other g3 (by simp; omega))
  have B3' := Lib.hid ((B2.out.alloc _).other g3 (by simp; omega))
  have C3 := Lib.hid (hC.out.other g3 (by simp; omega))
  have D3 := Lib.hid d3
  have hs3 := g3.size
  simp at hs3 O3
  have G3 := Lib.hid (gr_via (gr_alloc G2.out _) g3)
  have HO3 := Lib.hid O3
  clear d3 g3 hC O3
  have t0 := C3.out.cell (i := 0) rfl
  have hz2 : w2.heap.size < w3.heap.size := by omega
  have hE := Lib.hid (Blk.new w3 35 [.int .i64 num, .slice A3 n3 c3])
  by_cases hf : 1 ≤ f ∧ f ≤ n3
  · have hfd : decide (1 ≤ f ∧ f ≤ (n3 : Int)) = true := by simp; omega
    obtain ⟨b, off, rfl, hb0, hb1, _⟩ := HO3.out.2 (by omega)
    go_upto_if 23 with (go_at_call 43; refine (l1In_c _ _ _ _).mono ?_; rintro e w' ⟨rfl, rfl⟩)
    refine (pick_c g _ _ A n1 c1 xs1 _ (D3.out.upto (by go_grown)) (by omega)).mono ?_
    rintro e w4 ⟨_, q4, rfl, ⟨x4, rfl, l4, u4⟩, d4, e4, f4, g4⟩
    have A4 := Lib.hid ((A3'.out.alloc _).other g4 (by simp; omega))
    have B4 := Lib.hid ((B3'.out.alloc _).other g4 (by simp; omega))
    have C4 := Lib.hid ((C3.out.alloc _).other g4 (by simp; omega))
    have E4 := Lib.hid (hE.out.other g4 (by simp; omega))
    have O4 := Lib.hid (((HO3.out.up (Below.alloc (Below.refl _ _) (Nat.le_refl _) _)).low (by omega : w.heap.size + 1 + 1 ≤ _)).kept' g4 (by simp; omega))
    have hs4 := g4.size
    simp at hs4
    have D4 := Lib.hid d4
    have H4 := Lib.hid (H1.trans (gr_below (gr_via (gr_alloc G3.out _) g4) (by omega) (by omega)))
    go_upto_if 23 with (fail)
    go_cut [] (fun wx => ∃ zs' : List Int, Hid (Blk wx w.heap.size 49 [.int .i64 0, .int .i64 0, .int .i64 0, .int .i64 0]) ∧ Hid (Blk wx (w.heap.size + 1) 35 [.int .i64 0, .slice none 0 0]) ∧ Hid (Blk wx w2.heap.size 49 [.int .i64 f, .int .i64 m, .int .i64 op, .int .i64 x]) ∧ Hid (Blk wx w3.heap.size 35 [.int .i64 num, .slice (some ⟨b, off, none⟩) n3 c3]) ∧ Hid (Ow wx (w.heap.size + 1 + 1) (some ⟨b, off, none⟩) n3 zs') ∧ Hid (Below w.heap.size w wx))

    case first =>
      have GG4 := Lib.hid (gr_refl w4 g)
      have hs4w : w.heap.size ≤ w4.heap.size := by omega
      have c0 := C4.out.cell (i := 0) rfl
      have c3' := C4.out.cell (i := 3) rfl
      have e1 := E4.out.cell (i := 1) rfl
      obtain ⟨⟨z4, oc4⟩, of4⟩ := O4.out.cellAt (f.toNat - 1) (by omega)
      have hq : IntKind.i64.wrap (f - 1) = f - 1 := by rw [IntKind.wrap_i64]; omega
      have hj0 : 0 ≤ f - 1 := by omega
      have hj1 : f - 1 < (n3 : Int) := by omega
      go_wp2_with fail
      · go_region_law (go_simp; (go_at_call_of 57 (Value.int IntKind.i64 3); refine (pick_c g _ _ A n1 c1 xs1 _ (D4.out.upto (by go_grown)) (by omega)).mono ?_; rintro e w5 ⟨_, q5, rfl, ⟨x5, rfl, l5, u5⟩, d5, e5, f5, g5⟩; have A5 := Lib.hid ((A4.out.upto2 (by go_grown)).other g5 (by simp; omega)); have B5 := Lib.hid ((B4.out.upto2 (by go_grown)).other g5 (by simp; omega)); have C5 := Lib.hid ((C4.out.upto2 (by go_grown)).other g5 (by simp; omega)); have E5 := Lib.hid ((E4.out.upto2 (by go_grown)).other g5 (by simp; omega)); have O5 := Lib.hid ((O4.out.up (by go_grown)).kept' g5 (by simp; omega)); have H5 := Lib.hid (H4.out.trans (gr_below (gr_via (w := w4) (by (repeat' (first | exact gr_refl _ _ | (with_reducible assumption) | exact Hid.out (by assumption) | refine gr_drew ?_ | refine gr_drewN ?_ _ | refine gr_alloc ?_ _ | refine gr_set ?_ ?_ _ | omega | (simp; omega)))) g5) (by omega) (by omega))); clear d5 g5; have c50 := C5.out.cell (i := 0) rfl; have c53 := C5.out.cell (i := 3) rfl; have e51 := E5.out.cell (i := 1) rfl; obtain ⟨⟨z5, oc5⟩, of5⟩ := O5.out.cellAt (f.toNat - 1) (by omega)))
        all_goals
          go_wp2_with fail
          go_outline
          go_meet
          exact ⟨zs.set (f.toNat - 1) _, A5.out.far (by simp; omega) _, B5.out.far (by simp; omega) _, C5.out.far (by simp; omega) _, E5.out.far (by simp; omega) _, O5.out.put (f.toNat - 1) _, H5.out.trans (by go_grown)⟩
      · go_meet
        exact ⟨zs, A4, B4, C4, E4, O4, H4⟩
    case rest =>
      obtain ⟨zs', HA, HB, HC, HE, HO, HG⟩ := hcut
      have a0 := HA.out.cell (i := 0) rfl
      have a1 := HA.out.cell (i := 1) rfl
      have a2 := HA.out.cell (i := 2) rfl
      have a3 := HA.out.cell (i := 3) rfl
      have af := HA.out.free
      have b0 := HB.out.cell (i := 0) rfl
      have b1 := HB.out.cell (i := 1) rfl
      have bf := HB.out.free
      have k0 := HC.out.cell (i := 0) rfl
      have k1 := HC.out.cell (i := 1) rfl
      have k2 := HC.out.cell (i := 2) rfl
      have k3 := HC.out.cell (i := 3) rfl
      have l0 := HE.out.cell (i := 0) rfl
      have l1 := HE.out.cell (i := 1) rfl
      have n1 : w.heap.size ≠ w2.heap.size := by omega
      have n2 : w.heap.size ≠ w3.heap.size := by omega
      have n3' : w.heap.size + 1 ≠ w2.heap.size := by omega
      have n4 : w.heap.size + 1 ≠ w3.heap.size := by omega
      have n5 : w2.heap.size ≠ w3.heap.size := by omega
      go_wp2_with fail
      go_region
      go_wp2_with fail
      refine bodyPost_ret (v := .tuple #[testV f m op x, .agg #[.int .i64 num, .slice (some ⟨b, off, none⟩) n3 c3]]) (by simp [results, Try.results28, go_sem, a0, a1, a2, a3, b0, b1, testV]) rfl ?_
      go_light
      have hg := HG.out
      refine ⟨f, m, op, x, num, _, n3, c3, zs', rfl, Ow.low (B := w.heap.size + 1 + 1) ?_ (by omega), hn3, by go_grown⟩
      refine Ow.drew ?_
      iterate 6 refine Ow.far ?_ ?_ _
      exact HO.out
      all_goals (simp; try omega)
  · have hfd : decide (1 ≤ f ∧ f ≤ (n3 : Int)) = false := by simp; omega
    go_upto_if 23 with (go_at_call 43; refine (l1In_c _ _ _ _).mono ?_; rintro e w' ⟨rfl, rfl⟩)
    go_outline
    go_cut [] (fun wx => ∃ zs' : List Int, Hid (Blk wx w.heap.size 49 [.int .i64 0, .int .i64 0, .int .i64 0, .int .i64 0]) ∧ Hid (Blk wx (w.heap.size + 1) 35 [.int .i64 0, .slice none 0 0]) ∧ Hid (Blk wx w2.heap.size 49 [.int .i64 f, .int .i64 m, .int .i64 op, .int .i64 x]) ∧ Hid (Blk wx w3.heap.size 35 [.int .i64 num, .slice A3 n3 c3]) ∧ Hid (Ow wx (w.heap.size + 1 + 1) A3 n3 zs') ∧ Hid (Below w.heap.size w wx))
    case first =>
      go_wp2_with fail
      go_meet
      exact ⟨zs, A3'.out.alloc _, B3'.out.alloc _, C3.out.alloc _, hE, (HO3.out.up (Below.alloc (Below.refl _ _) (Nat.le_refl _) _)).low (by omega), Below.alloc (H1.trans (gr_below G3.out (by omega) (by omega))) (by omega) _⟩
    case rest =>
      obtain ⟨zs', HA, HB, HC, HE, HO, HG⟩ := hcut
      have a0 := HA.out.cell (i := 0) rfl
      have a1 := HA.out.cell (i := 1) rfl
      have a2 := HA.out.cell (i := 2) rfl
      have a3 := HA.out.cell (i := 3) rfl
      have af := HA.out.free
      have b0 := HB.out.cell (i := 0) rfl
      have b1 := HB.out.cell (i := 1) rfl
      have bf := HB.out.free
      have k0 := HC.out.cell (i := 0) rfl
      have k1 := HC.out.cell (i := 1) rfl
      have k2 := HC.out.cell (i := 2) rfl
      have k3 := HC.out.cell (i := 3) rfl
      have l0 := HE.out.cell (i := 0) rfl
      have l1 := HE.out.cell (i := 1) rfl
      have n1 : w.heap.size ≠ w2.heap.size := by omega
      have n2 : w.heap.size ≠ w3.heap.size := by omega
      have n3' : w.heap.size + 1 ≠ w2.heap.size := by omega
      have n4 : w.heap.size + 1 ≠ w3.heap.size := by omega
      have n5 : w2.heap.size ≠ w3.heap.size := by omega
      go_wp2_with fail
      go_region
      go_wp2_with fail
      refine bodyPost_ret (v := .tuple #[testV f m op x, .agg #[.int .i64 num, .slice A3 n3 c3]]) (by simp [results, Try.results28, go_sem, a0, a1, a2, a3, b0, b1, testV]) rfl ?_
      go_light
      have hg := HG.out
      refine ⟨f, m, op, x, num, _, n3, c3, zs', rfl, Ow.low (B := w.heap.size + 1 + 1) ?_ (by omega), hn3, by go_grown⟩
      refine Ow.drew ?_
      iterate 6 refine Ow.far ?_ ?_ _
      exact HO.out
      all_goals (simp; try omega)

end Go.Proofs.Ytbijlencoilchaa
