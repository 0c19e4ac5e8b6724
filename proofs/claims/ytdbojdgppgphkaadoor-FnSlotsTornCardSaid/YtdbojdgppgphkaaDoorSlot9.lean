/- Slots torn: the program's contract. Conditions: each contract's own. -/
import Derived.Test.YtdbojdgppgphkaaDoorSlot7
namespace Go.Proofs.YtdbojdgppgphkaaDoor
set_option linter.unusedSimpArgs false
open Go.RowKit Go.MuLone
set_option linter.unusedVariables false
set_option linter.unnecessarySimpa false
set_option maxRecDepth 20000
theorem tornR_none (a b t : List UInt8) {n0 : Int} (h : n0 ≤ 0) : tornR a b t n0 = (a, b) := by
  have e : ∀ x y : List UInt8, tornB x y n0 = y := fun x y => by unfold tornB; rw [if_pos h]
  unfold tornR
  rw [e, e]
  split
  · rfl
  · split <;> rfl
set_option maxHeartbeats 3200000 in
set_option maxRecDepth 100000 in
theorem slotsTorn_c (a b t : List UInt8) (n0 : Int) (h9 : n0 ≤ 9223372036854775807) (ha : a.length ≤ 9223372036854775806) (hb : b.length ≤ 9223372036854775806) (ht : t.length ≤ 4611686018427387903) (w : World) (hp : PT w w.heap.size) :
    Calls Tryd.prog 40 #[.agg #[.string (str a), .string (str b)], .string (str t), .int .i64 n0] w (RetB (.agg #[.string (str (tornR a b t n0).1), .string (str (tornR a b t n0).2)]) w) := by
  have HN := Lib.hid (fun W => newSlotPair_c a b W)
  have HP := Lib.hid hp
  clear hp
  by_cases h0 : n0 ≤ 0
  · rw [tornR_none a b t h0]
    simp only
    clear ha hb ht
    obtain ⟨W0, hW0⟩ : ∃ W0, W0 = (w.alloc (.cells #[.string (str a), .string (str b)] 53)).alloc (.cells #[.string ⟨#[]⟩, .string ⟨#[]⟩] 53) := ⟨_, rfl⟩
    have hB2 := blk_twoS w 53 53 [.string (str a), .string (str b)] [.string ⟨#[]⟩, .string ⟨#[]⟩]
    have X0 := Lib.hid (show Blk W0 w.heap.size 53 [.string (str a), .string (str b)] from hW0 ▸ hB2.1)
    have Y0 := Lib.hid (show Blk W0 (w.heap.size + 1) 53 [.string ⟨#[]⟩, .string ⟨#[]⟩] from hW0 ▸ hB2.2)
    have hs0 : W0.heap.size = w.heap.size + 1 + 1 := by rw [hW0]; simp
    have B0 := Lib.hid (show Below w.heap.size w W0 by rw [hW0]; go_grown)
    have x00 := X0.out.cell (i := 0) rfl
    have x01 := X0.out.cell (i := 1) rfl
    have HW0 := Lib.hid hW0
    clear hW0 hB2
    go_enter Tryd.func40, Tryd.ntmps40
    go_wp2_with fail
    rw [← HW0.out]
    refine (HN.out _).mono ?_
    rintro e w1 ⟨rfl, s1, b1⟩
    rw [hs0] at s1
    have S1 := Lib.hid s1
    have X1 := Lib.hid (X0.out.up b1)
    have Y1 := Lib.hid (Y0.out.up b1)
    have B1 := Lib.hid (B0.out.trans (b1.mono (by omega)))
    have P1 := Lib.hid (HP.out.below B1.out)
    have x10 := X1.out.cell (i := 0) rfl
    have x11 := X1.out.cell (i := 1) rfl
    have y10 := Y1.out.cell (i := 0) rfl
    have y11 := Y1.out.cell (i := 1) rfl
    have yf1 := Y1.out.free
    have hs1 := b1.size
    clear s1 b1 x00 x01
    go_wp2
    refine bodyPost_ret (v := .agg #[.string (str a), .string (str b)]) (by simp [results, Tryd.results40, go_sem, y10, y11]) rfl ?_
    go_light
    exact ⟨rfl, (B1.out.setCell (by simp) _).setCell (by simp) _⟩
  · obtain ⟨k, rfl⟩ : ∃ k : Nat, n0 = k := ⟨n0.toNat, by omega⟩
    have hk : 1 ≤ k := by omega
    obtain ⟨hq1, hq2, hq3⟩ := lastR_pos a b
    have HWr := Lib.hid (fun g B W h h2 h3 => write_c g B a b t ha hb ht W h h2 h3)
    have HW : Hid (writeR a b t = if 9999 ≤ (lastR a b).2.1 then (a, b, false) else if (lastR a b).2.2 = 0 then (slotW ((lastR a b).2.1 + 1) t, b, true) else (a, slotW ((lastR a b).2.1 + 1) t, true)) := Lib.hid rfl
    have HT : Hid (tornR a b t k = if 9999 ≤ (lastR a b).2.1 then (a, b) else if (lastR a b).2.2 = 0 then (tornB (slotW ((lastR a b).2.1 + 1) t) a k, b) else (a, tornB (slotW ((lastR a b).2.1 + 1) t) b k)) := Lib.hid rfl
    by_cases hn : 9999 ≤ (lastR a b).2.1
    · rw [if_pos hn] at HW HT
      rw [HT.out]
      simp only
      rw [HW.out] at HWr
      simp only at HWr
      clear HW HT hn hq1 hq2 hq3 h0
      obtain ⟨W0, hW0⟩ : ∃ W0, W0 = (w.alloc (.cells #[.string (str a), .string (str b)] 53)).alloc (.cells #[.string ⟨#[]⟩, .string ⟨#[]⟩] 53) := ⟨_, rfl⟩
      have hB2 := blk_twoS w 53 53 [.string (str a), .string (str b)] [.string ⟨#[]⟩, .string ⟨#[]⟩]
      have X0 := Lib.hid (show Blk W0 w.heap.size 53 [.string (str a), .string (str b)] from hW0 ▸ hB2.1)
      have Y0 := Lib.hid (show Blk W0 (w.heap.size + 1) 53 [.string ⟨#[]⟩, .string ⟨#[]⟩] from hW0 ▸ hB2.2)
      have hs0 : W0.heap.size = w.heap.size + 1 + 1 := by rw [hW0]; simp
      have B0 := Lib.hid (show Below w.heap.size w W0 by rw [hW0]; go_grown)
      have x00 := X0.out.cell (i := 0) rfl
      have x01 := X0.out.cell (i := 1) rfl
      have HW0 := Lib.hid hW0
      clear hW0 hB2
      go_enter Tryd.func40, Tryd.ntmps40
      go_wp2_with fail
      rw [← HW0.out]
      refine (HN.out _).mono ?_
      rintro e w1 ⟨rfl, s1, b1⟩
      rw [hs0] at s1
      have S1 := Lib.hid s1
      have X1 := Lib.hid (X0.out.up b1)
      have Y1 := Lib.hid (Y0.out.up b1)
      have B1 := Lib.hid (B0.out.trans (b1.mono (by omega)))
      have P1 := Lib.hid (HP.out.below B1.out)
      have x10 := X1.out.cell (i := 0) rfl
      have x11 := X1.out.cell (i := 1) rfl
      have y10 := Y1.out.cell (i := 0) rfl
      have y11 := Y1.out.cell (i := 1) rfl
      have yf1 := Y1.out.free
      have hs1 := b1.size
      clear s1 b1 x00 x01
      go_wp2_with fail
      refine (HWr.out _ w.heap.size _ S1.out (by omega) P1.out).mono ?_
      rintro e w2 ⟨rfl, s2, g2⟩
      have S2 := Lib.hid s2
      have X2 : Hid (Blk w2 w.heap.size 53 [.string (str a), .string (str b)]) := Lib.hid (blk_grown X1.out g2 (by omega))
      have Y2 : Hid (Blk w2 (w.heap.size + 1) 53 [.string ⟨#[]⟩, .string ⟨#[]⟩]) := Lib.hid (blk_grown Y1.out g2 (by omega))
      have B2 := Lib.hid (B1.out.trans (gb_below g2 (by omega) (by omega)))
      have hs2 := g2.size
      have x20 := X2.out.cell (i := 0) rfl
      have x21 := X2.out.cell (i := 1) rfl
      have y20 := Y2.out.cell (i := 0) rfl
      have y21 := Y2.out.cell (i := 1) rfl
      have yf2 := Y2.out.free
      clear s2 g2 x10 x11 y10 y11 yf1
      go_wp2
      refine bodyPost_ret (v := .agg #[.string (str a), .string (str b)]) (by simp [results, Tryd.results40, go_sem, y20, y21]) rfl ?_
      go_light
      exact ⟨rfl, (B2.out.setCell (by simp) _).setCell (by simp) _⟩
    · have hsl := slotW_len (n := (lastR a b).2.1 + 1) (by omega) t
      have HTe := Lib.hid (fun g c d hc hd W h => tear_c g c d a b k hk (by omega) hc hd ha hb W h)
      rw [if_neg hn] at HW HT
      generalize (lastR a b).2.1 = n at *
      generalize (lastR a b).2.2 = x at *
      rcases hq3 with rfl | rfl
      · rw [if_pos rfl] at HW HT
        rw [HT.out]
        simp only
        rw [HW.out] at HWr
        simp only at HWr
        have HT1 := Lib.hid (fun g W h => HTe.out g (slotW (n + 1) t) b (by omega) (by omega) W h)
        simp only [if_true] at HT1
        have HSl := Lib.hid (fun g W h => slots_c g (tornB (slotW (n + 1) t) a k) b W h)
        clear HW HT hq1 hq2 h0 HTe
        obtain ⟨W0, hW0⟩ : ∃ W0, W0 = (w.alloc (.cells #[.string (str a), .string (str b)] 53)).alloc (.cells #[.string ⟨#[]⟩, .string ⟨#[]⟩] 53) := ⟨_, rfl⟩
        have hB2 := blk_twoS w 53 53 [.string (str a), .string (str b)] [.string ⟨#[]⟩, .string ⟨#[]⟩]
        have X0 := Lib.hid (show Blk W0 w.heap.size 53 [.string (str a), .string (str b)] from hW0 ▸ hB2.1)
        have Y0 := Lib.hid (show Blk W0 (w.heap.size + 1) 53 [.string ⟨#[]⟩, .string ⟨#[]⟩] from hW0 ▸ hB2.2)
        have hs0 : W0.heap.size = w.heap.size + 1 + 1 := by rw [hW0]; simp
        have B0 := Lib.hid (show Below w.heap.size w W0 by rw [hW0]; go_grown)
        have x00 := X0.out.cell (i := 0) rfl
        have x01 := X0.out.cell (i := 1) rfl
        have HW0 := Lib.hid hW0
        clear hW0 hB2
        go_enter Tryd.func40, Tryd.ntmps40
        go_wp2_with fail
        rw [← HW0.out]
        refine (HN.out _).mono ?_
        rintro e w1 ⟨rfl, s1, b1⟩
        rw [hs0] at s1
        have S1 := Lib.hid s1
        have X1 := Lib.hid (X0.out.up b1)
        have Y1 := Lib.hid (Y0.out.up b1)
        have B1 := Lib.hid (B0.out.trans (b1.mono (by omega)))
        have P1 := Lib.hid (HP.out.below B1.out)
        have x10 := X1.out.cell (i := 0) rfl
        have x11 := X1.out.cell (i := 1) rfl
        have y10 := Y1.out.cell (i := 0) rfl
        have y11 := Y1.out.cell (i := 1) rfl
        have yf1 := Y1.out.free
        have hs1 := b1.size
        clear s1 b1 x00 x01
        go_wp2_with fail
        refine (HWr.out _ w.heap.size _ S1.out (by omega) P1.out).mono ?_
        rintro e w2 ⟨rfl, s2, g2⟩
        have S2 := Lib.hid s2
        have X2 : Hid (Blk w2 w.heap.size 53 [.string (str a), .string (str b)]) := Lib.hid (blk_grown X1.out g2 (by omega))
        have Y2 : Hid (Blk w2 (w.heap.size + 1) 53 [.string ⟨#[]⟩, .string ⟨#[]⟩]) := Lib.hid (blk_grown Y1.out g2 (by omega))
        have B2 := Lib.hid (B1.out.trans (gb_below g2 (by omega) (by omega)))
        have hs2 := g2.size
        have x20 := X2.out.cell (i := 0) rfl
        have x21 := X2.out.cell (i := 1) rfl
        have y20 := Y2.out.cell (i := 0) rfl
        have y21 := Y2.out.cell (i := 1) rfl
        have yf2 := Y2.out.free
        clear s2 g2 x10 x11 y10 y11 yf1
        go_wp2_with fail
        refine (HT1.out _ _ S2.out).mono ?_
        rintro e w3 ⟨rfl, s3, g3⟩
        have S3 := Lib.hid s3
        have X3 : Hid (Blk w3 w.heap.size 53 [.string (str a), .string (str b)]) := Lib.hid (blk_grown X2.out g3 (by omega))
        have Y3 : Hid (Blk w3 (w.heap.size + 1) 53 [.string ⟨#[]⟩, .string ⟨#[]⟩]) := Lib.hid (blk_grown Y2.out g3 (by omega))
        have B3 := Lib.hid (B2.out.trans (gb_below g3 (by omega) (by omega)))
        have hs3 := g3.size
        have x30 := X3.out.cell (i := 0) rfl
        have x31 := X3.out.cell (i := 1) rfl
        have y30 := Y3.out.cell (i := 0) rfl
        have y31 := Y3.out.cell (i := 1) rfl
        have yf3 := Y3.out.free
        clear s3 g3 x20 x21 y20 y21 yf2
        go_wp2_with fail
        refine (HSl.out _ _ S3.out).mono ?_
        rintro e w4 ⟨rfl, s4, g4⟩
        have S4 := Lib.hid s4
        have X4 : Hid (Blk w4 w.heap.size 53 [.string (str a), .string (str b)]) := Lib.hid (blk_grown X3.out g4 (by omega))
        have Y4 : Hid (Blk w4 (w.heap.size + 1) 53 [.string ⟨#[]⟩, .string ⟨#[]⟩]) := Lib.hid (blk_grown Y3.out g4 (by omega))
        have B4 := Lib.hid (B3.out.trans (gb_below g4 (by omega) (by omega)))
        have hs4 := g4.size
        have x40 := X4.out.cell (i := 0) rfl
        have x41 := X4.out.cell (i := 1) rfl
        have y40 := Y4.out.cell (i := 0) rfl
        have y41 := Y4.out.cell (i := 1) rfl
        have yf4 := Y4.out.free
        clear s4 g4 x30 x31 y30 y31 yf3
        go_wp2
        refine bodyPost_ret (v := .agg #[.string (str (tornB (slotW (n + 1) t) a k)), .string (str b)]) (by simp [results, Tryd.results40, go_sem, y40, y41]) rfl ?_
        go_light
        exact ⟨rfl, (B4.out.setCell (by simp) _).setCell (by simp) _⟩
      · rw [if_neg (by decide)] at HW HT
        rw [HT.out]
        simp only
        rw [HW.out] at HWr
        simp only at HWr
        have HT1 := Lib.hid (fun g W h => HTe.out g a (slotW (n + 1) t) (by omega) (by omega) W h)
        simp only [show ¬ ((1 : Int) = 0) from by decide, if_false] at HT1
        have HSl := Lib.hid (fun g W h => slots_c g a (tornB (slotW (n + 1) t) b k) W h)
        clear HW HT hq1 hq2 h0 HTe
        obtain ⟨W0, hW0⟩ : ∃ W0, W0 = (w.alloc (.cells #[.string (str a), .string (str b)] 53)).alloc (.cells #[.string ⟨#[]⟩, .string ⟨#[]⟩] 53) := ⟨_, rfl⟩
        have hB2 := blk_twoS w 53 53 [.string (str a), .string (str b)] [.string ⟨#[]⟩, .string ⟨#[]⟩]
        have X0 := Lib.hid (show Blk W0 w.heap.size 53 [.string (str a), .string (str b)] from hW0 ▸ hB2.1)
        have Y0 := Lib.hid (show Blk W0 (w.heap.size + 1) 53 [.string ⟨#[]⟩, .string ⟨#[]⟩] from hW0 ▸ hB2.2)
        have hs0 : W0.heap.size = w.heap.size + 1 + 1 := by rw [hW0]; simp
        have B0 := Lib.hid (show Below w.heap.size w W0 by rw [hW0]; go_grown)
        have x00 := X0.out.cell (i := 0) rfl
        have x01 := X0.out.cell (i := 1) rfl
        have HW0 := Lib.hid hW0
        clear hW0 hB2
        go_enter Tryd.func40, Tryd.ntmps40
        go_wp2_with fail
        rw [← HW0.out]
        refine (HN.out _).mono ?_
        rintro e w1 ⟨rfl, s1, b1⟩
        rw [hs0] at s1
        have S1 := Lib.hid s1
        have X1 := Lib.hid (X0.out.up b1)
        have Y1 := Lib.hid (Y0.out.up b1)
        have B1 := Lib.hid (B0.out.trans (b1.mono (by omega)))
        have P1 := Lib.hid (HP.out.below B1.out)
        have x10 := X1.out.cell (i := 0) rfl
        have x11 := X1.out.cell (i := 1) rfl
        have y10 := Y1.out.cell (i := 0) rfl
        have y11 := Y1.out.cell (i := 1) rfl
        have yf1 := Y1.out.free
        have hs1 := b1.size
        clear s1 b1 x00 x01
        go_wp2_with fail
        refine (HWr.out _ w.heap.size _ S1.out (by omega) P1.out).mono ?_
        rintro e w2 ⟨rfl, s2, g2⟩
        have S2 := Lib.hid s2
        have X2 : Hid (Blk w2 w.heap.size 53 [.string (str a), .string (str b)]) := Lib.hid (blk_grown X1.out g2 (by omega))
        have Y2 : Hid (Blk w2 (w.heap.size + 1) 53 [.string ⟨#[]⟩, .string ⟨#[]⟩]) := Lib.hid (blk_grown Y1.out g2 (by omega))
        have B2 := Lib.hid (B1.out.trans (gb_below g2 (by omega) (by omega)))
        have hs2 := g2.size
        have x20 := X2.out.cell (i := 0) rfl
        have x21 := X2.out.cell (i := 1) rfl
        have y20 := Y2.out.cell (i := 0) rfl
        have y21 := Y2.out.cell (i := 1) rfl
        have yf2 := Y2.out.free
        clear s2 g2 x10 x11 y10 y11 yf1
        go_wp2_with fail
        refine (HT1.out _ _ S2.out).mono ?_
        rintro e w3 ⟨rfl, s3, g3⟩
        have S3 := Lib.hid s3
        have X3 : Hid (Blk w3 w.heap.size 53 [.string (str a), .string (str b)]) := Lib.hid (blk_grown X2.out g3 (by omega))
        have Y3 : Hid (Blk w3 (w.heap.size + 1) 53 [.string ⟨#[]⟩, .string ⟨#[]⟩]) := Lib.hid (blk_grown Y2.out g3 (by omega))
        have B3 := Lib.hid (B2.out.trans (gb_below g3 (by omega) (by omega)))
        have hs3 := g3.size
        have x30 := X3.out.cell (i := 0) rfl
        have x31 := X3.out.cell (i := 1) rfl
        have y30 := Y3.out.cell (i := 0) rfl
        have y31 := Y3.out.cell (i := 1) rfl
        have yf3 := Y3.out.free
        clear s3 g3 x20 x21 y20 y21 yf2
        go_wp2_with fail
        refine (HSl.out _ _ S3.out).mono ?_
        rintro e w4 ⟨rfl, s4, g4⟩
        have S4 := Lib.hid s4
        have X4 : Hid (Blk w4 w.heap.size 53 [.string (str a), .string (str b)]) := Lib.hid (blk_grown X3.out g4 (by omega))
        have Y4 : Hid (Blk w4 (w.heap.size + 1) 53 [.string ⟨#[]⟩, .string ⟨#[]⟩]) := Lib.hid (blk_grown Y3.out g4 (by omega))
        have B4 := Lib.hid (B3.out.trans (gb_below g4 (by omega) (by omega)))
        have hs4 := g4.size
        have x40 := X4.out.cell (i := 0) rfl
        have x41 := X4.out.cell (i := 1) rfl
        have y40 := Y4.out.cell (i := 0) rfl
        have y41 := Y4.out.cell (i := 1) rfl
        have yf4 := Y4.out.free
        clear s4 g4 x30 x31 y30 y31 yf3
        go_wp2
        refine bodyPost_ret (v := .agg #[.string (str a), .string (str (tornB (slotW (n + 1) t) b k))]) (by simp [results, Tryd.results40, go_sem, y40, y41]) rfl ?_
        go_light
        exact ⟨rfl, (B4.out.setCell (by simp) _).setCell (by simp) _⟩
end Go.Proofs.YtdbojdgppgphkaaDoor
