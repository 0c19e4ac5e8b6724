/- Drawn slots: the draw. Conditions: each contract's own. -/
import Derived.Test.YtdbojdgppgphkaaDoorDrawSlots
namespace Go.Proofs.YtdbojdgppgphkaaDoor
set_option linter.unusedSimpArgs false
open Go.RowKit
set_option linter.unusedVariables false
set_option linter.unnecessarySimpa false
set_option maxRecDepth 20000
theorem five_size {a b c : ByteArray} (ha : a.size ≤ 1000) (hb : b.size ≤ 1000) (hc : c.size ≤ 1000) : ∀ s ∈ [⟨#[]⟩, ⟨#[120]⟩, a, b, c], s.size ≤ 1000 := by
  intro s hs
  simp only [List.mem_cons, List.not_mem_nil, or_false] at hs
  rcases hs with rfl | rfl | rfl | rfl | rfl
  · decide
  · decide
  · exact ha
  · exact hb
  · exact hc
set_option maxHeartbeats 6400000 in
set_option maxRecDepth 100000 in
theorem l11Slots_c (g : Nat) (p : Int) (A : Option Addr) (n c : Nat) (xs : List Int) (w : World) (h : Dr w g 129 p A n c xs) (hp : p ≤ 1099511620000) :
    Calls Tryd.prog 86 #[.pointer (some ⟨g, 0, none⟩)] w (RetDraw SlotsIs g 129 p 8 A n c xs w) := by
  have hlow := h.low
  have hgl := h.blk.lt
  have D0 := Lib.hid h
  clear h
  have hB2 := blk_twoS w 53 53 [.string ⟨#[]⟩, .string ⟨#[]⟩] [.string ⟨#[]⟩, .string ⟨#[]⟩]
  have hA := Lib.hid hB2.1
  have hB := Lib.hid hB2.2
  clear hB2
  go_enter Tryd.func86, Tryd.ntmps86
  go_wp2_with fail
  go_at_call 51
  refine (pick_c g _ _ A n c xs _ (D0.out.upto (by go_grown)) (by omega)).mono ?_
  rintro e w1 ⟨_, q1, rfl, ⟨x1, rfl, l1, u1⟩, d1, e1, f1, g1⟩
  have A1 : Hid (Blk w1 w.heap.size 53 [.string ⟨#[]⟩, .string ⟨#[]⟩]) := Lib.hid (hA.out.other g1 (by simp; omega))
  have B1 : Hid (Blk w1 (w.heap.size + 1) 53 [.string ⟨#[]⟩, .string ⟨#[]⟩]) := Lib.hid (hB.out.other g1 (by simp; omega))
  have hs1 := g1.size
  simp at hs1
  have G1 := Lib.hid (gr_via (w := w) (by (repeat' (first | exact gr_refl _ _ | (with_reducible assumption) | exact Hid.out (by assumption) | refine gr_drew ?_ | refine gr_drewN ?_ _ | refine gr_alloc ?_ _ | refine gr_set ?_ ?_ _ | omega | (simp; omega)))) g1)
  have D1 := Lib.hid d1
  clear d1 g1 hA hB
  have v1 := u1 (by omega)
  obtain ⟨k1, rfl⟩ : ∃ k : Nat, x1 = k := ⟨x1.toNat, by omega⟩
  go_wp2_with fail
  go_loopg [4] k1 (fun gk i wr => ∃ (q : Int) (SA SB : ByteArray), i = .int .i64 gk ∧ Hid (Blk wr w.heap.size 53 [.string ⟨#[]⟩, .string ⟨#[]⟩]) ∧ Hid (Blk wr (w.heap.size + 1) 53 [.string SA, .string SB]) ∧ SA.size ≤ 1000 ∧ SB.size ≤ 1000 ∧ Hid (Dr wr g 129 q A n c xs) ∧ p ≤ q ∧ q + gk ≤ p + 5 ∧ gk ≤ 4 ∧ Hid (w.grownBy wr (some g)) ∧ w.heap.size + 2 ≤ wr.heap.size)
  case atStart => exact ⟨q1, _, _, rfl, A1, B1, by decide, by decide, D1, by omega, by omega, by omega, G1, by omega⟩
  case round =>
    obtain ⟨q, SA, SB, rfl, HA, HB, hSA, hSB, HD, hq1, hq2, hgk, HG, hz⟩ := hrel
    clear A1 B1 D1 G1 hs1
    have c0 := HB.out.cell (i := 0) rfl
    have c1 := HB.out.cell (i := 1) rfl
    have cf := HB.out.free
    have hzz0 : w.heap.size < wr.heap.size := by omega
    have hzz1 : w.heap.size + 1 < wr.heap.size := by omega
    rcases Nat.eq_zero_or_pos gk with rfl | hpos
    · go_wp2_with fail
      go_at_call 51
      refine (pick_c g _ _ A n c xs _ HD.out (by omega)).mono ?_
      rintro e w5 ⟨_, q5, rfl, ⟨x5, rfl, l5, u5⟩, d5, e5, f5, g5⟩
      have A5 := Lib.hid (HA.out.other g5 (by simp; omega))
      have B5 := Lib.hid (HB.out.other g5 (by simp; omega))
      have hs5 := g5.size
      (try simp at hs5)
      have G5 := Lib.hid (gr_via HG.out g5)
      have D5 := Lib.hid d5
      clear d5 g5
      have a50 := A5.out.cell (i := 0) rfl
      have a51 := A5.out.cell (i := 1) rfl
      have af5 := A5.out.free
      have b50 := B5.out.cell (i := 0) rfl
      have b51 := B5.out.cell (i := 1) rfl
      have bf5 := B5.out.free
      clear c0 c1 cf
      have v5 := u5 (by omega)
      by_cases hx0 : x5 = 0
      · subst hx0
        go_wp2_with fail
        go_region_with (first
          | (go_at_call 50; refine (ofN_c g _ A n c xs _ 1000 5 [⟨#[]⟩, ⟨#[120]⟩, SB, T6, T7] _ (D7.out.upto (by go_grown)) (by omega) rfl (by omega) (by omega) (by first | exact Blk.new _ 9 (strs [⟨#[]⟩, ⟨#[120]⟩, SB, T6, T7]) | exact (Blk.new _ 9 (strs [⟨#[]⟩, ⟨#[120]⟩, SB, T6, T7])).drew) (by simp <;> omega) (five_size hSB hT6 hT7)).mono ?_; rintro e w8 ⟨_, q8, rfl, ⟨s8, rfl, hs8s⟩, d8, e8, f8, g8⟩; have A8 := Lib.hid ((A7.out.up (by go_grown)).other g8 (by simp; omega)); have B8 := Lib.hid ((B7.out.up (by go_grown)).other g8 (by simp; omega)); have hs8 := g8.size; (try simp at hs8); have G8 := Lib.hid (gr_via (w := w) (by (repeat' (first | exact gr_refl _ _ | (with_reducible assumption) | exact Hid.out (by assumption) | refine gr_drew ?_ | refine gr_drewN ?_ _ | refine gr_alloc ?_ _ | refine gr_set ?_ ?_ _ | omega | (simp; omega)))) g8); have D8 := Lib.hid d8; clear d8 g8; have a80 := A8.out.cell (i := 0) rfl; have a81 := A8.out.cell (i := 1) rfl; have af8 := A8.out.free; have b80 := B8.out.cell (i := 0) rfl; have b81 := B8.out.cell (i := 1) rfl; have bf8 := B8.out.free)
          | (go_at_call_of 80 (Value.int IntKind.i64 9999); refine (slotAny_c _ (by omega) (by omega) _ (by decide) _).mono ?_; rintro e w6 ⟨T6, rfl, hT6, b6⟩; have A6 := Lib.hid (A5.out.drew.up b6); have B6 := Lib.hid (B5.out.drew.up b6); have hs6 := b6.size; (try simp at hs6); have G6 := Lib.hid (gn_step2 (gr_drew G5.out) b6); have D6 := Lib.hid ((D5.out.drewN 1).upto b6); clear b6; have a60 := A6.out.cell (i := 0) rfl; have a61 := A6.out.cell (i := 1) rfl; have af6 := A6.out.free; have b60 := B6.out.cell (i := 0) rfl; have b61 := B6.out.cell (i := 1) rfl; have bf6 := B6.out.free)
          | (go_at_call_of 80 (Value.int IntKind.i64 0); refine (slotAny_c _ (by omega) (by omega) _ (by decide) _).mono ?_; rintro e w7 ⟨T7, rfl, hT7, b7⟩; have A7 := Lib.hid (A6.out.up b7); have B7 := Lib.hid (B6.out.up b7); have hs7 := b7.size; (try simp at hs7); have G7 := Lib.hid (gn_step2 G6.out b7); have D7 := Lib.hid (D6.out.upto b7); clear b7; have a70 := A7.out.cell (i := 0) rfl; have a71 := A7.out.cell (i := 1) rfl; have af7 := A7.out.free; have b70 := B7.out.cell (i := 0) rfl; have b71 := B7.out.cell (i := 1) rfl; have bf7 := B7.out.free))
        all_goals
          go_wp2
          refine bodyPost_ret (v := .agg #[.string s8, .string SB]) (by simp [results, Tryd.results86, go_sem, a80, a81, b80, b81]) rfl ?_
          go_light
          exact ⟨_, q8, rfl, ⟨s8, SB, rfl, hs8s, hSB⟩, ((D8.out.far (by simp; omega) _).far (by simp; omega) _).far (by simp; omega) _, by omega, by omega, gr_set (gr_set (gr_set G8.out (.inr (by simp)) _) (.inr (by simp)) _) (.inr (by simp)) _⟩
      · by_cases hx1 : x5 = 1
        · subst hx1
          go_wp2_with fail
          go_region_with (first
            | (go_at_call 39; refine (tornAny_c _ _ _ _ hSA hSB (by decide) _).mono ?_; rintro e w7 ⟨SA', SB', rfl, hA', hB', b7⟩; have A7 := Lib.hid (A6.out.up b7); have B7 := Lib.hid (B6.out.up b7); have hs7 := b7.size; (try simp at hs7); have G7 := Lib.hid (gn_step2 G6.out b7); have D7 := Lib.hid (D6.out.upto b7); clear b7; have a70 := A7.out.cell (i := 0) rfl; have a71 := A7.out.cell (i := 1) rfl; have af7 := A7.out.free; have b70 := B7.out.cell (i := 0) rfl; have b71 := B7.out.cell (i := 1) rfl; have bf7 := B7.out.free)
            | (go_at_call 51; refine (pick_c g _ _ A n c xs _ (D5.out.drewN 1) (by omega)).mono ?_; rintro e w6 ⟨_, q6, rfl, ⟨x6, rfl, l6, u6⟩, d6, e6, f6, g6⟩; have A6 := Lib.hid (A5.out.drew.other g6 (by simp; omega)); have B6 := Lib.hid (B5.out.drew.other g6 (by simp; omega)); have hs6 := g6.size; (try simp at hs6); have G6 := Lib.hid (gr_via (gr_drew G5.out) g6); have D6 := Lib.hid d6; clear d6 g6; have a60 := A6.out.cell (i := 0) rfl; have a61 := A6.out.cell (i := 1) rfl; have af6 := A6.out.free; have b60 := B6.out.cell (i := 0) rfl; have b61 := B6.out.cell (i := 1) rfl; have bf6 := B6.out.free))
          all_goals
            go_wp2
            refine bodyPost_ret (v := .agg #[.string SA', .string SB']) (by simp [results, Tryd.results86, go_sem, a70, a71, b70, b71]) rfl ?_
            go_light
            exact ⟨_, q6, rfl, ⟨SA', SB', rfl, hA', hB'⟩, ((((D7.out.far (by simp; omega) _).far (by simp; omega) _).far (by simp; omega) _).far (by simp; omega) _), by omega, by omega, gr_set (gr_set (gr_set (gr_set G7.out (.inr (by simp)) _) (.inr (by simp)) _) (.inr (by simp)) _) (.inr (by simp)) _⟩
        · go_wp2
          refine bodyPost_ret (v := .agg #[.string SA, .string SB]) (by simp [results, Tryd.results86, go_sem, a50, a51, b50, b51]) rfl ?_
          go_light
          exact ⟨_, q5, rfl, ⟨SA, SB, rfl, hSA, hSB⟩, (D5.out.far (by simp; omega) _).far (by simp; omega) _, by omega, by omega, gr_set (gr_set G5.out (.inr (by simp)) _) (.inr (by simp)) _⟩
    · obtain ⟨gm, rfl⟩ : ∃ m, gk = m + 1 := ⟨gk - 1, by omega⟩
      go_wp2_with fail
      go_region_law (first
        | (go_simp; (go_at_call 35; refine (writeAny_c _ _ _ hSA hSB (by omega) _).mono ?_; rintro e w4 ⟨SA', SB', o, rfl, hA', hB', b4⟩; have A4 := Lib.hid (A3.out.up b4); have B4 := Lib.hid (B3.out.up b4); have hs4 := b4.size; (try simp at hs4); have G4 := Lib.hid (gn_step2 G3.out b4); have D4 := Lib.hid (D3.out.upto b4); clear b4; have a40 := A4.out.cell (i := 0) rfl; have a41 := A4.out.cell (i := 1) rfl; have af4 := A4.out.free; have b40 := B4.out.cell (i := 0) rfl; have b41 := B4.out.cell (i := 1) rfl; have bf4 := B4.out.free))
        | (go_simp; (go_at_call 50; refine (ofN_c g _ A n c xs _ 26 4 txts4 _ (HD.out.upto (by go_grown)) (by omega) rfl (by omega) (by omega) (by first | exact Blk.new _ 9 (strs txts4) | exact (Blk.new _ 9 (strs txts4)).drew) (by simp <;> omega) txts4_size).mono ?_; rintro e w3 ⟨_, q3, rfl, ⟨s3, rfl, hs3s⟩, d3, e3, f3, g3⟩; have A3 := Lib.hid ((HA.out.up (by go_grown)).other g3 (by simp; omega)); have B3 := Lib.hid ((HB.out.up (by go_grown)).other g3 (by simp; omega)); have hs3 := g3.size; (try simp at hs3); have G3 := Lib.hid (gr_via (w := w) (by (repeat' (first | exact gr_refl _ _ | (with_reducible assumption) | exact Hid.out (by assumption) | refine gr_drew ?_ | refine gr_drewN ?_ _ | refine gr_alloc ?_ _ | refine gr_set ?_ ?_ _ | omega | (simp; omega)))) g3); have D3 := Lib.hid d3; clear d3 g3; have a30 := A3.out.cell (i := 0) rfl; have a31 := A3.out.cell (i := 1) rfl; have af3 := A3.out.free; have b30 := B3.out.cell (i := 0) rfl; have b31 := B3.out.cell (i := 1) rfl; have bf3 := B3.out.free)))
      all_goals
        go_wp2_with fail
        go_roundg gm
        case measure => omega
        case rel =>
          go_light
          exact ⟨q3, SA', SB', by go_num, (A4.out.far (by simp) _).far (by simp) _, (B4.out.set_ 0 _).set_ 1 _, hA', hB', (D4.out.far (by simp; omega) _).far (by simp; omega) _, by omega, by omega, by omega, gr_set (gr_set G4.out (.inr (by simp)) _) (.inr (by simp)) _, by simp; omega⟩
end Go.Proofs.YtdbojdgppgphkaaDoor
