/- Slots written: the reference's contracts. Conditions: each contract's own. -/
import Derived.Test.YtdbojdgppgphkaaDoorSlot5
namespace Go.Proofs.YtdbojdgppgphkaaDoor
set_option linter.unusedSimpArgs false
open Go.RowKit Go.MuLone
set_option linter.unusedVariables false
set_option linter.unnecessarySimpa false
set_option maxRecDepth 20000
set_option maxHeartbeats 1600000 in
set_option maxRecDepth 100000 in
theorem l8Next_c (a b : List UInt8) (ha : a.length ≤ 9223372036854775806) (hb : b.length ≤ 9223372036854775806) (w : World) :
    Calls Tryd.prog 79 #[.agg #[.string (str a), .string (str b)]] w (RetB (.tuple #[.bool (decide ((lastR a b).2.2 = 1)), .int .i64 ((lastR a b).2.1 + 1)]) w) := by
  have hpa := slotR_pos a
  have hpb := slotR_pos b
  have HCA := Lib.hid (fun W => l8Read_c a ha W)
  have HCB := Lib.hid (fun W => l8Read_c b hb W)
  have HL : Hid (lastR a b = if (slotR a).2 < (slotR b).2 then ((slotR b).1, (slotR b).2, 0) else if 0 < (slotR a).2 then ((slotR a).1, (slotR a).2, 1) else ([], 0, 0)) := Lib.hid rfl
  obtain ⟨R, hR⟩ : ∃ R, R = lastR a b := ⟨_, rfl⟩
  rw [← hR] at HL ⊢
  clear hR
  generalize (slotR a).1 = sa at *
  generalize (slotR a).2 = na at *
  generalize (slotR b).1 = sb at *
  generalize (slotR b).2 = nb at *
  obtain ⟨hpa1, hpa2⟩ := hpa
  obtain ⟨hpb1, hpb2⟩ := hpb
  generalize str a = A at *
  generalize str b = B at *
  by_cases h2 : na < nb
  · have hRe : Hid (R = (sb, nb, 0)) := Lib.hid (by rw [HL.out, if_pos h2])
    have ew : IntKind.i64.wrap (nb + 1) = nb + 1 := IntWalk.i64_in _ (by omega)
    rw [hRe.out]
    clear HL hRe
    go_enter Tryd.func79, Tryd.ntmps79
    (go_wp2_with fail); (go_at_call 88; refine (HCA.out _).mono ?_; rintro e w1 ⟨rfl, b1⟩; obtain ⟨gc1, gf1⟩ := below_get b1; (try simp only [heap_drew, World.size_alloc, World.size_setCell] at gc1 gf1); have s1 := below_via (w := w) (by go_grown) b1; have H1 := s1; have hs1 := b1.size; (try simp at hs1); have z1_0 : w.heap.size < w1.heap.size := (by omega); clear b1)
    (go_wp2_with fail); (go_at_call 88; refine (HCB.out _).mono ?_; rintro e w2 ⟨rfl, b2⟩; obtain ⟨gc2, gf2⟩ := below_get b2; (try simp only [heap_drew, World.size_alloc, World.size_setCell] at gc2 gf2); have s2 := below_via (w := w1) (by go_grown) b2; have H2 := below_via H1 s2; have hs2 := b2.size; (try simp at hs2); have z2_0 : w.heap.size < w2.heap.size := (by omega); clear b2)
    go_wp2
    go_returns
    exact ⟨rfl, by go_grown⟩
  · have ew : IntKind.i64.wrap (na + 1) = na + 1 := IntWalk.i64_in _ (by omega)
    by_cases h3 : 0 < na
    · have hRe : Hid (R = (sa, na, 1)) := Lib.hid (by rw [HL.out, if_neg h2, if_pos h3])
      rw [hRe.out]
      clear HL hRe
      go_enter Tryd.func79, Tryd.ntmps79
      (go_wp2_with fail); (go_at_call 88; refine (HCA.out _).mono ?_; rintro e w1 ⟨rfl, b1⟩; obtain ⟨gc1, gf1⟩ := below_get b1; (try simp only [heap_drew, World.size_alloc, World.size_setCell] at gc1 gf1); have s1 := below_via (w := w) (by go_grown) b1; have H1 := s1; have hs1 := b1.size; (try simp at hs1); have z1_0 : w.heap.size < w1.heap.size := (by omega); clear b1)
      (go_wp2_with fail); (go_at_call 88; refine (HCB.out _).mono ?_; rintro e w2 ⟨rfl, b2⟩; obtain ⟨gc2, gf2⟩ := below_get b2; (try simp only [heap_drew, World.size_alloc, World.size_setCell] at gc2 gf2); have s2 := below_via (w := w1) (by go_grown) b2; have H2 := below_via H1 s2; have hs2 := b2.size; (try simp at hs2); have z2_0 : w.heap.size < w2.heap.size := (by omega); clear b2)
      go_wp2
      go_returns
      exact ⟨rfl, by go_grown⟩
    · have hRe : Hid (R = ([], 0, 0)) := Lib.hid (by rw [HL.out, if_neg h2, if_neg h3])
      have hz : na = 0 := by omega
      subst hz
      rw [hRe.out]
      clear HL hRe
      go_enter Tryd.func79, Tryd.ntmps79
      (go_wp2_with fail); (go_at_call 88; refine (HCA.out _).mono ?_; rintro e w1 ⟨rfl, b1⟩; obtain ⟨gc1, gf1⟩ := below_get b1; (try simp only [heap_drew, World.size_alloc, World.size_setCell] at gc1 gf1); have s1 := below_via (w := w) (by go_grown) b1; have H1 := s1; have hs1 := b1.size; (try simp at hs1); have z1_0 : w.heap.size < w1.heap.size := (by omega); clear b1)
      (go_wp2_with fail); (go_at_call 88; refine (HCB.out _).mono ?_; rintro e w2 ⟨rfl, b2⟩; obtain ⟨gc2, gf2⟩ := below_get b2; (try simp only [heap_drew, World.size_alloc, World.size_setCell] at gc2 gf2); have s2 := below_via (w := w1) (by go_grown) b2; have H2 := below_via H1 s2; have hs2 := b2.size; (try simp at hs2); have z2_0 : w.heap.size < w2.heap.size := (by omega); clear b2)
      go_wp2
      go_returns
      exact ⟨rfl, by go_grown⟩
theorem l8Slot_c (n : Int) (h0 : 0 ≤ n) (h1 : n ≤ 10000) (t : List UInt8) (ht : t.length ≤ 4611686018427387903) (w : World) :
    Calls Tryd.prog 80 #[.int .i64 n, .string (str t)] w (RetB (.string (str (slotW n t))) w) := by
  obtain ⟨D, X1, X2, S, T, eD, eS, eT, r1, r2, r3⟩ := slot_runs (P := Tryd.prog) h0 h1 t ht
  have HD := Lib.hid (fun W => decI_c n h0 (by omega) W)
  rw [← eD] at HD
  rw [← eS, ← eT]
  clear eD eS eT
  go_enter Tryd.func80, Tryd.ntmps80
  (go_wp2_with fail); (go_at_call 89; refine (HD.out _).mono ?_; rintro e w1 ⟨rfl, b1⟩; obtain ⟨gc1, gf1⟩ := below_get b1; (try simp only [heap_drew, World.size_alloc, World.size_setCell] at gc1 gf1); have s1 := below_via (w := w) (by go_grown) b1; have H1 := s1; have hs1 := b1.size; (try simp at hs1); clear b1)
  go_wp2
  go_returns
  exact ⟨rfl, by go_grown⟩
set_option maxHeartbeats 1600000 in
set_option maxRecDepth 100000 in
theorem specSlotsWrite_c (a b t : List UInt8) (ha : a.length ≤ 9223372036854775806) (hb : b.length ≤ 9223372036854775806) (ht : t.length ≤ 4611686018427387903) (w : World) :
    Calls Tryd.prog 35 #[.agg #[.string (str a), .string (str b)], .string (str t)] w (RetB (.tuple #[.agg #[.string (str (writeR a b t).1), .string (str (writeR a b t).2.1)], .bool (writeR a b t).2.2]) w) := by
  obtain ⟨hq1, hq2, hq3⟩ := lastR_pos a b
  have HN := Lib.hid (fun W => l8Next_c a b ha hb W)
  have HS := Lib.hid (fun n h0 h1 W => l8Slot_c n h0 h1 t ht W)
  have HW : Hid (writeR a b t = if 9999 ≤ (lastR a b).2.1 then (a, b, false) else if (lastR a b).2.2 = 0 then (slotW ((lastR a b).2.1 + 1) t, b, true) else (a, slotW ((lastR a b).2.1 + 1) t, true)) := Lib.hid rfl
  obtain ⟨R, hR⟩ : ∃ R, R = writeR a b t := ⟨_, rfl⟩
  rw [← hR] at HW ⊢
  clear hR
  generalize (lastR a b).2.1 = n at *
  generalize (lastR a b).2.2 = x at *
  by_cases hn : 9999 ≤ n
  · have hRe : Hid (R = (a, b, false)) := Lib.hid (by rw [HW.out, if_pos hn])
    rw [hRe.out]
    simp only
    have hn' : 9999 < n + 1 := by omega
    clear HW hRe hn HS
    generalize decide (x = 1) = y at *
    generalize str a = A at *
    generalize str b = B at *
    generalize str t = T at *
    obtain ⟨W0, hW0⟩ : ∃ W0, W0 = (w.alloc (.cells #[.string A, .string B] 53)).alloc (.cells #[.string ⟨#[]⟩, .string ⟨#[]⟩] 53) := ⟨_, rfl⟩
    have hB2 := blk_twoS w 53 53 [.string A, .string B] [.string ⟨#[]⟩, .string ⟨#[]⟩]
    have X0 := Lib.hid (show Blk W0 w.heap.size 53 [.string A, .string B] from hW0 ▸ hB2.1)
    have Y0 := Lib.hid (show Blk W0 (w.heap.size + 1) 53 [.string ⟨#[]⟩, .string ⟨#[]⟩] from hW0 ▸ hB2.2)
    have hs0 : W0.heap.size = w.heap.size + 1 + 1 := by rw [hW0]; simp
    have B0 := Lib.hid (show Below w.heap.size w W0 by rw [hW0]; go_grown)
    have x00 := X0.out.cell (i := 0) rfl
    have x01 := X0.out.cell (i := 1) rfl
    have xf0 := X0.out.free
    have HW0 := Lib.hid hW0
    clear hW0 hB2
    go_enter Tryd.func35, Tryd.ntmps35
    go_wp2_with fail
    rw [← HW0.out]
    refine (HN.out _).mono ?_
    rintro e w1 ⟨rfl, b1⟩
    have X1 := Lib.hid (X0.out.up b1)
    have Y1 := Lib.hid (Y0.out.up b1)
    have B1 := Lib.hid (B0.out.trans (b1.mono (by omega)))
    have x10 := X1.out.cell (i := 0) rfl
    have x11 := X1.out.cell (i := 1) rfl
    have xf1 := X1.out.free
    have y10 := Y1.out.cell (i := 0) rfl
    have y11 := Y1.out.cell (i := 1) rfl
    have yf1 := Y1.out.free
    have hs1 := b1.size
    clear b1 x00 x01 xf0
    go_wp2
    refine bodyPost_ret (v := .tuple #[.agg #[.string A, .string B], .bool false]) (by simp [results, Tryd.results35, go_sem, y10, y11]) rfl ?_
    go_light
    exact ⟨rfl, (B1.out.setCell (by simp) _).setCell (by simp) _⟩
  · have HS1 := Lib.hid (fun W => HS.out (n + 1) (by omega) (by omega) W)
    have hn' : n + 1 ≤ 9999 := by omega
    rcases hq3 with rfl | rfl
    · have hRe : Hid (R = (slotW (n + 1) t, b, true)) := Lib.hid (by rw [HW.out, if_neg hn, if_pos rfl])
      have hb : decide ((0 : Int) = 1) = false := rfl
      rw [hb] at HN
      rw [hRe.out]
      simp only
      clear HW hRe hn HS hb
      generalize str (slotW (n + 1) t) = S at *
      generalize str a = A at *
      generalize str b = B at *
      generalize str t = T at *
      obtain ⟨W0, hW0⟩ : ∃ W0, W0 = (w.alloc (.cells #[.string A, .string B] 53)).alloc (.cells #[.string ⟨#[]⟩, .string ⟨#[]⟩] 53) := ⟨_, rfl⟩
      have hB2 := blk_twoS w 53 53 [.string A, .string B] [.string ⟨#[]⟩, .string ⟨#[]⟩]
      have X0 := Lib.hid (show Blk W0 w.heap.size 53 [.string A, .string B] from hW0 ▸ hB2.1)
      have Y0 := Lib.hid (show Blk W0 (w.heap.size + 1) 53 [.string ⟨#[]⟩, .string ⟨#[]⟩] from hW0 ▸ hB2.2)
      have hs0 : W0.heap.size = w.heap.size + 1 + 1 := by rw [hW0]; simp
      have B0 := Lib.hid (show Below w.heap.size w W0 by rw [hW0]; go_grown)
      have x00 := X0.out.cell (i := 0) rfl
      have x01 := X0.out.cell (i := 1) rfl
      have xf0 := X0.out.free
      have HW0 := Lib.hid hW0
      clear hW0 hB2
      go_enter Tryd.func35, Tryd.ntmps35
      go_wp2_with fail
      rw [← HW0.out]
      refine (HN.out _).mono ?_
      rintro e w1 ⟨rfl, b1⟩
      have X1 := Lib.hid (X0.out.up b1)
      have Y1 := Lib.hid (Y0.out.up b1)
      have B1 := Lib.hid (B0.out.trans (b1.mono (by omega)))
      have x10 := X1.out.cell (i := 0) rfl
      have x11 := X1.out.cell (i := 1) rfl
      have xf1 := X1.out.free
      have y10 := Y1.out.cell (i := 0) rfl
      have y11 := Y1.out.cell (i := 1) rfl
      have yf1 := Y1.out.free
      have hs1 := b1.size
      clear b1 x00 x01 xf0
      go_wp2_with fail
      refine (HS1.out _).mono ?_
      rintro e w2 ⟨rfl, b2⟩
      have X2 := Lib.hid ((X1.out.up (b2.mono (by omega))).set_ 0 (.string S))
      have Y2 := Lib.hid ((Y1.out.up (b2.mono (by omega))).far (p := ⟨w.heap.size, 0, none⟩) (by simp) (.string S))
      have B2 : Hid (Below w.heap.size w (w2.setCell ⟨w.heap.size, 0, none⟩ (.string S))) := Lib.hid ((B1.out.trans (b2.mono (by omega))).setCell (by simp) _)
      have x2 := (X1.out.up (b2.mono (by omega))).cell (i := 0) rfl
      have x2f := (X1.out.up (b2.mono (by omega))).free
      have x20 := X2.out.cell (i := 0) rfl
      have x21 := X2.out.cell (i := 1) rfl
      have xf2 := X2.out.free
      have y2a := (Y1.out.up (b2.mono (by omega))).cell (i := 0) rfl
      have y2b := (Y1.out.up (b2.mono (by omega))).cell (i := 1) rfl
      have y20 := Y2.out.cell (i := 0) rfl
      have y21 := Y2.out.cell (i := 1) rfl
      have yf2 := Y2.out.free
      have hs2 := b2.size
      clear b2 x10 x11 xf1 y10 y11 yf1
      go_wp2
      refine bodyPost_ret (v := .tuple #[.agg #[.string S, .string B], .bool true]) (by simp [results, Tryd.results35, go_sem, y20, y21, y2a, y2b, x2]) rfl ?_
      go_light
      exact ⟨rfl, (B2.out.setCell (by simp) _).setCell (by simp) _⟩
    · have hRe : Hid (R = (a, slotW (n + 1) t, true)) := Lib.hid (by rw [HW.out, if_neg hn, if_neg (by decide)])
      have hb : decide ((1 : Int) = 1) = true := rfl
      rw [hb] at HN
      rw [hRe.out]
      simp only
      clear HW hRe hn HS hb
      generalize str (slotW (n + 1) t) = S at *
      generalize str a = A at *
      generalize str b = B at *
      generalize str t = T at *
      obtain ⟨W0, hW0⟩ : ∃ W0, W0 = (w.alloc (.cells #[.string A, .string B] 53)).alloc (.cells #[.string ⟨#[]⟩, .string ⟨#[]⟩] 53) := ⟨_, rfl⟩
      have hB2 := blk_twoS w 53 53 [.string A, .string B] [.string ⟨#[]⟩, .string ⟨#[]⟩]
      have X0 := Lib.hid (show Blk W0 w.heap.size 53 [.string A, .string B] from hW0 ▸ hB2.1)
      have Y0 := Lib.hid (show Blk W0 (w.heap.size + 1) 53 [.string ⟨#[]⟩, .string ⟨#[]⟩] from hW0 ▸ hB2.2)
      have hs0 : W0.heap.size = w.heap.size + 1 + 1 := by rw [hW0]; simp
      have B0 := Lib.hid (show Below w.heap.size w W0 by rw [hW0]; go_grown)
      have x00 := X0.out.cell (i := 0) rfl
      have x01 := X0.out.cell (i := 1) rfl
      have xf0 := X0.out.free
      have HW0 := Lib.hid hW0
      clear hW0 hB2
      go_enter Tryd.func35, Tryd.ntmps35
      go_wp2_with fail
      rw [← HW0.out]
      refine (HN.out _).mono ?_
      rintro e w1 ⟨rfl, b1⟩
      have X1 := Lib.hid (X0.out.up b1)
      have Y1 := Lib.hid (Y0.out.up b1)
      have B1 := Lib.hid (B0.out.trans (b1.mono (by omega)))
      have x10 := X1.out.cell (i := 0) rfl
      have x11 := X1.out.cell (i := 1) rfl
      have xf1 := X1.out.free
      have y10 := Y1.out.cell (i := 0) rfl
      have y11 := Y1.out.cell (i := 1) rfl
      have yf1 := Y1.out.free
      have hs1 := b1.size
      clear b1 x00 x01 xf0
      go_wp2_with fail
      refine (HS1.out _).mono ?_
      rintro e w2 ⟨rfl, b2⟩
      have X2 := Lib.hid ((X1.out.up (b2.mono (by omega))).set_ 1 (.string S))
      have Y2 := Lib.hid ((Y1.out.up (b2.mono (by omega))).far (p := ⟨w.heap.size, 1, none⟩) (by simp) (.string S))
      have B2 : Hid (Below w.heap.size w (w2.setCell ⟨w.heap.size, 1, none⟩ (.string S))) := Lib.hid ((B1.out.trans (b2.mono (by omega))).setCell (by simp) _)
      have x2 := (X1.out.up (b2.mono (by omega))).cell (i := 1) rfl
      have x2f := (X1.out.up (b2.mono (by omega))).free
      have x20 := X2.out.cell (i := 0) rfl
      have x21 := X2.out.cell (i := 1) rfl
      have xf2 := X2.out.free
      have y2a := (Y1.out.up (b2.mono (by omega))).cell (i := 0) rfl
      have y2b := (Y1.out.up (b2.mono (by omega))).cell (i := 1) rfl
      have y20 := Y2.out.cell (i := 0) rfl
      have y21 := Y2.out.cell (i := 1) rfl
      have yf2 := Y2.out.free
      have hs2 := b2.size
      clear b2 x10 x11 xf1 y10 y11 yf1
      go_wp2
      refine bodyPost_ret (v := .tuple #[.agg #[.string A, .string S], .bool true]) (by simp [results, Tryd.results35, go_sem, y20, y21, y2a, y2b, x2]) rfl ?_
      go_light
      exact ⟨rfl, (B2.out.setCell (by simp) _).setCell (by simp) _⟩
end Go.Proofs.YtdbojdgppgphkaaDoor
