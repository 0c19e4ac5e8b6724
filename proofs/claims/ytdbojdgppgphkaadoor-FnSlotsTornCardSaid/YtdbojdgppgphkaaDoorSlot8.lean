/- Slots torn: the reference's contract. Conditions: each contract's own. -/
import Derived.Test.YtdbojdgppgphkaaDoorSlot7
namespace Go.Proofs.YtdbojdgppgphkaaDoor
set_option linter.unusedSimpArgs false
open Go.RowKit Go.MuLone
set_option linter.unusedVariables false
set_option linter.unnecessarySimpa false
set_option maxRecDepth 20000
set_option maxHeartbeats 3200000 in
set_option maxRecDepth 100000 in
theorem specSlotsTorn_c (a b t : List UInt8) (n0 : Int) (ha : a.length ≤ 9223372036854775806) (hb : b.length ≤ 9223372036854775806) (ht : t.length ≤ 4611686018427387903) (w : World) :
    Calls Tryd.prog 39 #[.agg #[.string (str a), .string (str b)], .string (str t), .int .i64 n0] w (RetB (.agg #[.string (str (tornR a b t n0).1), .string (str (tornR a b t n0).2)]) w) := by
  obtain ⟨hq1, hq2, hq3⟩ := lastR_pos a b
  have HN := Lib.hid (fun W => l8Next_c a b ha hb W)
  have HS := Lib.hid (fun n h0 h1 W => l8Slot_c n h0 h1 t ht W)
  have HTA := Lib.hid (fun (n : Int) (h : n ≤ 10000) W => l8Torn_c (slotW n t) a n0 (by have := slotW_len h t; omega) ha W)
  have HTB := Lib.hid (fun (n : Int) (h : n ≤ 10000) W => l8Torn_c (slotW n t) b n0 (by have := slotW_len h t; omega) hb W)
  have HW : Hid (tornR a b t n0 = if 9999 ≤ (lastR a b).2.1 then (a, b) else if (lastR a b).2.2 = 0 then (tornB (slotW ((lastR a b).2.1 + 1) t) a n0, b) else (a, tornB (slotW ((lastR a b).2.1 + 1) t) b n0)) := Lib.hid rfl
  obtain ⟨R, hR⟩ : ∃ R, R = tornR a b t n0 := ⟨_, rfl⟩
  rw [← hR] at HW ⊢
  clear hR
  generalize (lastR a b).2.1 = n at *
  generalize (lastR a b).2.2 = x at *
  by_cases hn : 9999 ≤ n
  · have hRe : Hid (R = (a, b)) := Lib.hid (by rw [HW.out, if_pos hn])
    rw [hRe.out]
    simp only
    have hn' : 9999 < n + 1 := by omega
    clear HW hRe hn HS HTA HTB
    generalize decide (x = 1) = y at *
    generalize str a = A at *
    generalize str b = B at *
    generalize str t = T at *
    obtain ⟨W0, hW0⟩ : ∃ W0, W0 = (w.alloc (.cells #[.string A, .string B] 53)).alloc (.cells #[.string ⟨#[]⟩, .string ⟨#[]⟩] 53) := ⟨_, rfl⟩
    have hB2 := blk_twoS w 53 53 [.string A, .string B] [.string ⟨#[]⟩, .string ⟨#[]⟩]
    have X0 := Lib.hid (show Blk W0 w.heap.size 53 [.string A, .string B] from hW0 ▸ hB2.1)
    have Y0 := Lib.hid (show Blk W0 (w.heap.size + 1) 53 [.string ⟨#[]⟩, .string ⟨#[]⟩] from hW0 ▸ hB2.2)
    have hs0 : W0.heap.size = w.heap.size + 1 + 1 := by rw [hW0]; simp
    have B0 := Lib.hid (show Below w.heap.size w W0 by rw [hW0]; go_grown)
    have x00 := X0.out.cell (i := 0) rfl
    have x01 := X0.out.cell (i := 1) rfl
    have xf0 := X0.out.free
    have HW0 := Lib.hid hW0
    clear hW0 hB2
    go_enter Tryd.func39, Tryd.ntmps39
    go_wp2_with fail
    rw [← HW0.out]
    refine (HN.out _).mono ?_
    rintro e w1 ⟨rfl, b1⟩
    have X1 := Lib.hid (X0.out.up b1)
    have Y1 := Lib.hid (Y0.out.up b1)
    have B1 := Lib.hid (B0.out.trans (b1.mono (by omega)))
    have x10 := X1.out.cell (i := 0) rfl
    have x11 := X1.out.cell (i := 1) rfl
    have xf1 := X1.out.free
    have y10 := Y1.out.cell (i := 0) rfl
    have y11 := Y1.out.cell (i := 1) rfl
    have yf1 := Y1.out.free
    have hs1 := b1.size
    clear b1 x00 x01 xf0
    go_wp2
    refine bodyPost_ret (v := .agg #[.string A, .string B]) (by simp [results, Tryd.results39, go_sem, y10, y11]) rfl ?_
    go_light
    exact ⟨rfl, (B1.out.setCell (by simp) _).setCell (by simp) _⟩
  · have HS1 := Lib.hid (fun W => HS.out (n + 1) (by omega) (by omega) W)
    have HTA1 := Lib.hid (fun W => HTA.out (n + 1) (by omega) W)
    have HTB1 := Lib.hid (fun W => HTB.out (n + 1) (by omega) W)
    have hn' : n + 1 ≤ 9999 := by omega
    rcases hq3 with rfl | rfl
    · have hRe : Hid (R = (tornB (slotW (n + 1) t) a n0, b)) := Lib.hid (by rw [HW.out, if_neg hn, if_pos rfl])
      have hb : decide ((0 : Int) = 1) = false := rfl
      rw [hb] at HN
      rw [hRe.out]
      simp only
      have HT := HTA1
      clear HW hRe hn HS hb HTA HTB HTA1 HTB1
      generalize str (tornB (slotW (n + 1) t) a n0) = F at *
      generalize str (slotW (n + 1) t) = S at *
      generalize str a = A at *
      generalize str b = B at *
      generalize str t = T at *
      obtain ⟨W0, hW0⟩ : ∃ W0, W0 = (w.alloc (.cells #[.string A, .string B] 53)).alloc (.cells #[.string ⟨#[]⟩, .string ⟨#[]⟩] 53) := ⟨_, rfl⟩
      have hB2 := blk_twoS w 53 53 [.string A, .string B] [.string ⟨#[]⟩, .string ⟨#[]⟩]
      have X0 := Lib.hid (show Blk W0 w.heap.size 53 [.string A, .string B] from hW0 ▸ hB2.1)
      have Y0 := Lib.hid (show Blk W0 (w.heap.size + 1) 53 [.string ⟨#[]⟩, .string ⟨#[]⟩] from hW0 ▸ hB2.2)
      have hs0 : W0.heap.size = w.heap.size + 1 + 1 := by rw [hW0]; simp
      have B0 := Lib.hid (show Below w.heap.size w W0 by rw [hW0]; go_grown)
      have x00 := X0.out.cell (i := 0) rfl
      have x01 := X0.out.cell (i := 1) rfl
      have xf0 := X0.out.free
      have HW0 := Lib.hid hW0
      clear hW0 hB2
      go_enter Tryd.func39, Tryd.ntmps39
      go_wp2_with fail
      rw [← HW0.out]
      refine (HN.out _).mono ?_
      rintro e w1 ⟨rfl, b1⟩
      have X1 := Lib.hid (X0.out.up b1)
      have Y1 := Lib.hid (Y0.out.up b1)
      have B1 := Lib.hid (B0.out.trans (b1.mono (by omega)))
      have x10 := X1.out.cell (i := 0) rfl
      have x11 := X1.out.cell (i := 1) rfl
      have xf1 := X1.out.free
      have y10 := Y1.out.cell (i := 0) rfl
      have y11 := Y1.out.cell (i := 1) rfl
      have yf1 := Y1.out.free
      have hs1 := b1.size
      clear b1 x00 x01 xf0
      go_wp2_with fail
      go_region_with (first
        | (go_at_call 84; refine (HT.out _).mono ?_; rintro e w3 ⟨rfl, b3⟩; have X3 := Lib.hid (X2.out.up b3); have Y3 := Lib.hid (Y2.out.up b3); have B3 := Lib.hid (B2.out.trans (b3.mono (by omega))); have x30 := X3.out.cell (i := 0) rfl; have x31 := X3.out.cell (i := 1) rfl; have xf3 := X3.out.free; have y30 := Y3.out.cell (i := 0) rfl; have y31 := Y3.out.cell (i := 1) rfl; have yf3 := Y3.out.free; have hs3 := b3.size; clear b3)
        | (go_at_call 80; refine (HS1.out _).mono ?_; rintro e w2 ⟨rfl, b2⟩; have X2 := Lib.hid (X1.out.drew.up b2); have Y2 := Lib.hid (Y1.out.drew.up b2); have B2 := Lib.hid (B1.out.drew.trans (b2.mono (by simp; omega))); have x20 := X2.out.cell (i := 0) rfl; have x21 := X2.out.cell (i := 1) rfl; have hs2 : w1.heap.size ≤ w2.heap.size := (by simpa using b2.size); clear b2))
      all_goals
        go_wp2
        refine bodyPost_ret (v := .agg #[.string F, .string B]) (by simp [results, Tryd.results39, go_sem, y30, y31, x30, x31]) rfl ?_
        go_light
        exact ⟨rfl, ((B3.out.setCell (by simp) _).setCell (by simp) _).setCell (by simp) _⟩
    · have hRe : Hid (R = (a, tornB (slotW (n + 1) t) b n0)) := Lib.hid (by rw [HW.out, if_neg hn, if_neg (by decide)])
      have hb : decide ((1 : Int) = 1) = true := rfl
      rw [hb] at HN
      rw [hRe.out]
      simp only
      have HT := HTB1
      clear HW hRe hn HS hb HTA HTB HTA1 HTB1
      generalize str (tornB (slotW (n + 1) t) b n0) = F at *
      generalize str (slotW (n + 1) t) = S at *
      generalize str a = A at *
      generalize str b = B at *
      generalize str t = T at *
      obtain ⟨W0, hW0⟩ : ∃ W0, W0 = (w.alloc (.cells #[.string A, .string B] 53)).alloc (.cells #[.string ⟨#[]⟩, .string ⟨#[]⟩] 53) := ⟨_, rfl⟩
      have hB2 := blk_twoS w 53 53 [.string A, .string B] [.string ⟨#[]⟩, .string ⟨#[]⟩]
      have X0 := Lib.hid (show Blk W0 w.heap.size 53 [.string A, .string B] from hW0 ▸ hB2.1)
      have Y0 := Lib.hid (show Blk W0 (w.heap.size + 1) 53 [.string ⟨#[]⟩, .string ⟨#[]⟩] from hW0 ▸ hB2.2)
      have hs0 : W0.heap.size = w.heap.size + 1 + 1 := by rw [hW0]; simp
      have B0 := Lib.hid (show Below w.heap.size w W0 by rw [hW0]; go_grown)
      have x00 := X0.out.cell (i := 0) rfl
      have x01 := X0.out.cell (i := 1) rfl
      have xf0 := X0.out.free
      have HW0 := Lib.hid hW0
      clear hW0 hB2
      go_enter Tryd.func39, Tryd.ntmps39
      go_wp2_with fail
      rw [← HW0.out]
      refine (HN.out _).mono ?_
      rintro e w1 ⟨rfl, b1⟩
      have X1 := Lib.hid (X0.out.up b1)
      have Y1 := Lib.hid (Y0.out.up b1)
      have B1 := Lib.hid (B0.out.trans (b1.mono (by omega)))
      have x10 := X1.out.cell (i := 0) rfl
      have x11 := X1.out.cell (i := 1) rfl
      have xf1 := X1.out.free
      have y10 := Y1.out.cell (i := 0) rfl
      have y11 := Y1.out.cell (i := 1) rfl
      have yf1 := Y1.out.free
      have hs1 := b1.size
      clear b1 x00 x01 xf0
      go_wp2_with fail
      go_region_with (first
        | (go_at_call 84; refine (HT.out _).mono ?_; rintro e w3 ⟨rfl, b3⟩; have X3 := Lib.hid (X2.out.up b3); have Y3 := Lib.hid (Y2.out.up b3); have B3 := Lib.hid (B2.out.trans (b3.mono (by omega))); have x30 := X3.out.cell (i := 0) rfl; have x31 := X3.out.cell (i := 1) rfl; have xf3 := X3.out.free; have y30 := Y3.out.cell (i := 0) rfl; have y31 := Y3.out.cell (i := 1) rfl; have yf3 := Y3.out.free; have hs3 := b3.size; clear b3)
        | (go_at_call 80; refine (HS1.out _).mono ?_; rintro e w2 ⟨rfl, b2⟩; have X2 := Lib.hid (X1.out.drew.up b2); have Y2 := Lib.hid (Y1.out.drew.up b2); have B2 := Lib.hid (B1.out.drew.trans (b2.mono (by simp; omega))); have x20 := X2.out.cell (i := 0) rfl; have x21 := X2.out.cell (i := 1) rfl; have hs2 : w1.heap.size ≤ w2.heap.size := (by simpa using b2.size); clear b2))
      all_goals
        go_wp2
        refine bodyPost_ret (v := .agg #[.string A, .string F]) (by simp [results, Tryd.results39, go_sem, y30, y31, x30, x31]) rfl ?_
        go_light
        exact ⟨rfl, ((B3.out.setCell (by simp) _).setCell (by simp) _).setCell (by simp) _⟩
end Go.Proofs.YtdbojdgppgphkaaDoor
