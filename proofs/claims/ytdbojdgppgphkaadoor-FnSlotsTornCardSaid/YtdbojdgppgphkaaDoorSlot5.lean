/- Slots written: the program's contracts. Conditions: each contract's own. -/
import Derived.Test.YtdbojdgppgphkaaDoorSlot4
namespace Go.Proofs.YtdbojdgppgphkaaDoor
set_option linter.unusedSimpArgs false
open Go.RowKit Go.MuLone
set_option linter.unusedVariables false
set_option linter.unnecessarySimpa false
set_option maxRecDepth 20000
theorem gb_below {w w' : World} {g B : Nat} (h : w.grownBy w' (some g)) (hB : B ≤ g) (hw : B ≤ w.heap.size) : Below B w w' :=
  ⟨h.os, h.tape, h.output, h.size, fun i hi => h.block i (by omega) (by simp; omega)⟩
theorem _root_.Go.World.grownBy.drew'' {w w' : World} {row : Option Nat} (h : w.grownBy w' row) : w.grownBy w'.drew row := ⟨h.os, h.tape, h.output, h.size, h.block⟩
theorem blk_twoS (w : World) (t s : Nat) (us vs : List Value) : Blk ((w.alloc (.cells us.toArray t)).alloc (.cells vs.toArray s)) w.heap.size t us ∧ Blk ((w.alloc (.cells us.toArray t)).alloc (.cells vs.toArray s)) (w.heap.size + 1) s vs := by
  refine ⟨(Blk.new w t us).alloc _, ?_⟩
  have := Blk.new (w.alloc (.cells us.toArray t)) s vs
  rwa [World.size_alloc] at this
set_option maxHeartbeats 3200000 in
set_option maxRecDepth 100000 in
theorem write_c (g B : Nat) (a b t : List UInt8) (ha : a.length ≤ 9223372036854775806) (hb : b.length ≤ 9223372036854775806) (ht : t.length ≤ 4611686018427387903) (w : World) (h : SP w g 165 a b) (hB : B ≤ g) (hp : PT w B) :
    Calls Tryd.prog 82 #[.pointer (some ⟨g, 0, none⟩), .string (str t)] w (fun e w' => e = .returned (.bool (writeR a b t).2.2) ∧ SP w' g 165 (writeR a b t).1 (writeR a b t).2.1 ∧ w.grownBy w' (some g)) := by
  obtain ⟨hq1, hq2, hq3⟩ := lastR_pos a b
  have HL := Lib.hid (fun W h => last_c g a b ha hb W h)
  have HW : Hid (writeR a b t = if 9999 ≤ (lastR a b).2.1 then (a, b, false) else if (lastR a b).2.2 = 0 then (slotW ((lastR a b).2.1 + 1) t, b, true) else (a, slotW ((lastR a b).2.1 + 1) t, true)) := Lib.hid rfl
  obtain ⟨R, hR⟩ : ∃ R, R = writeR a b t := ⟨_, rfl⟩
  rw [← hR] at HW ⊢
  clear hR
  obtain ⟨D, X1, X2, S, T, eD, eS, eT, r1, r2, r3⟩ := slot_runs (P := Tryd.prog) (n := (lastR a b).2.1 + 1) (by omega) (by omega) t ht
  have HI := Lib.hid (fun W hp => itoa_c ((lastR a b).2.1 + 1) (by omega) (by omega) W B hp)
  rw [← eD] at HI
  rw [← eT]
  have ES := Lib.hid eS
  have H0 := Lib.hid h
  have hlt := h.lt
  have HP := Lib.hid hp
  clear eD eS eT h hp
  generalize (lastR a b).1 = s at *
  generalize (lastR a b).2.1 = n at *
  generalize (lastR a b).2.2 = x at *
  generalize str s = SS at *
  by_cases hn : 9999 ≤ n
  · have hRe : Hid (R = (a, b, false)) := Lib.hid (by rw [HW.out, if_pos hn])
    rw [hRe.out]
    simp only
    clear HW hRe r1 r2 r3 HI
    go_enter Tryd.func82, Tryd.ntmps82
    go_wp2_with fail
    refine (HL.out _ H0.out).mono ?_
    rintro e w1 ⟨rfl, s1, g1⟩
    have S1 := Lib.hid s1
    have G1 := Lib.hid g1
    clear s1 g1
    go_wp2
    go_returns
    exact ⟨rfl, S1.out, G1.out⟩
  · rcases hq3 with rfl | rfl
    · have hRe : Hid (R = (slotW (n + 1) t, b, true)) := Lib.hid (by rw [HW.out, if_neg hn, if_pos rfl])
      rw [hRe.out]
      simp only
      have hn' : n < 9999 := by omega
      clear HW hRe hn
      go_enter_defers Tryd.func82, Tryd.ntmps82
      go_wp2_with fail
      refine (HL.out _ H0.out).mono ?_
      rintro e w1 ⟨rfl, s1, g1⟩
      have S1 := Lib.hid s1
      have G1 := Lib.hid g1
      have P1 := Lib.hid (HP.out.below (gb_below g1 hB (by omega)))
      clear s1 g1
      go_wp2_with fail
      refine (lock_free Tryd.muLib ⟨g, 0, none⟩ _ (S1.out.cell (i := 0) rfl) (S1.out.free 0)).mono ?_
      rintro e w' ⟨rfl, rfl⟩
      have hg1 := S1.out.lt
      have X2 := Lib.hid (S1.out.set_ 0 (.int .i32 1))
      have G2 := Lib.hid (grg_set G1.out 0 (.int .i32 1))
      have P2 := Lib.hid (P1.out.below (gb_below (grg_set (grg_refl w1 g) 0 (.int .i32 1)) hB (by omega)))
      have hg2 : g < (w1.setCell ⟨g, 0, none⟩ (.int .i32 1)).heap.size := X2.out.lt
      generalize w1.setCell ⟨g, 0, none⟩ (.int .i32 1) = w2 at *
      have HE := Lib.hid (show Blk w2 g 165 [.int .i32 1, .int .u32 0, .string (str a), .string (str b)] from X2.out)
      have hw1 : IntKind.i64.wrap (n + 1) = n + 1 := IntWalk.i64_in _ (by omega)
      go_wp2_with fail
      go_region_held3 (fun _ => True) (trivial) ((go_at_call 46; refine (HI.out _ (P2.out.below (by go_grown))).mono ?_; rintro e w3 ⟨rfl, b3⟩; have X3 := Lib.hid (HE.out.drew.up b3); have G3 := Lib.hid (gn_step2 (G2.out.drew'') b3); have x3 := X3.out.cell (i := 2) rfl; have xf := X3.out.free; clear b3))
      go_wp2
      have X4 := Lib.hid (X3.out.set_ 2 (.string S))
      have G4 := Lib.hid (grg_set G3.out 2 (.string S))
      clear hw1
      refine leaves_cons (f := 121) (args := #[.pointer (some ⟨g, 0, none⟩)]) (by simp) (by simp [go_sem]) ?_
      refine (unlock_deferred Tryd.muLib ⟨g, 0, none⟩ .returning _ (X4.out.cell (i := 0) rfl) (X4.out.free 0)).mono ?_
      rintro e u' w'' ⟨rfl, rfl, rfl⟩
      refine ⟨_, results_tmp rfl _ _ _, rfl, ?_, grg_set G4.out 0 (.int .i32 0)⟩
      unfold SP
      rw [← ES.out]
      exact X4.out.set_ 0 (.int .i32 0)
    · have hRe : Hid (R = (a, slotW (n + 1) t, true)) := Lib.hid (by rw [HW.out, if_neg hn, if_neg (by decide)])
      rw [hRe.out]
      simp only
      have hn' : n < 9999 := by omega
      clear HW hRe hn
      go_enter_defers Tryd.func82, Tryd.ntmps82
      go_wp2_with fail
      refine (HL.out _ H0.out).mono ?_
      rintro e w1 ⟨rfl, s1, g1⟩
      have S1 := Lib.hid s1
      have G1 := Lib.hid g1
      have P1 := Lib.hid (HP.out.below (gb_below g1 hB (by omega)))
      clear s1 g1
      go_wp2_with fail
      refine (lock_free Tryd.muLib ⟨g, 0, none⟩ _ (S1.out.cell (i := 0) rfl) (S1.out.free 0)).mono ?_
      rintro e w' ⟨rfl, rfl⟩
      have hg1 := S1.out.lt
      have X2 := Lib.hid (S1.out.set_ 0 (.int .i32 1))
      have G2 := Lib.hid (grg_set G1.out 0 (.int .i32 1))
      have P2 := Lib.hid (P1.out.below (gb_below (grg_set (grg_refl w1 g) 0 (.int .i32 1)) hB (by omega)))
      have hg2 : g < (w1.setCell ⟨g, 0, none⟩ (.int .i32 1)).heap.size := X2.out.lt
      generalize w1.setCell ⟨g, 0, none⟩ (.int .i32 1) = w2 at *
      have HE := Lib.hid (show Blk w2 g 165 [.int .i32 1, .int .u32 0, .string (str a), .string (str b)] from X2.out)
      have hw1 : IntKind.i64.wrap (n + 1) = n + 1 := IntWalk.i64_in _ (by omega)
      go_wp2_with fail
      go_region_held3 (fun _ => True) (trivial) ((go_at_call 46; refine (HI.out _ (P2.out.below (by go_grown))).mono ?_; rintro e w3 ⟨rfl, b3⟩; have X3 := Lib.hid (HE.out.drew.up b3); have G3 := Lib.hid (gn_step2 (G2.out.drew'') b3); have x3 := X3.out.cell (i := 3) rfl; have xf := X3.out.free; clear b3))
      go_wp2
      have X4 := Lib.hid (X3.out.set_ 3 (.string S))
      have G4 := Lib.hid (grg_set G3.out 3 (.string S))
      clear hw1
      refine leaves_cons (f := 121) (args := #[.pointer (some ⟨g, 0, none⟩)]) (by simp) (by simp [go_sem]) ?_
      refine (unlock_deferred Tryd.muLib ⟨g, 0, none⟩ .returning _ (X4.out.cell (i := 0) rfl) (X4.out.free 0)).mono ?_
      rintro e u' w'' ⟨rfl, rfl, rfl⟩
      refine ⟨_, results_tmp rfl _ _ _, rfl, ?_, grg_set G4.out 0 (.int .i32 0)⟩
      unfold SP
      rw [← ES.out]
      exact X4.out.set_ 0 (.int .i32 0)
set_option maxHeartbeats 1600000 in
set_option maxRecDepth 100000 in
theorem slotsWrite_c (a b t : List UInt8) (ha : a.length ≤ 9223372036854775806) (hb : b.length ≤ 9223372036854775806) (ht : t.length ≤ 4611686018427387903) (w : World) (hp : PT w w.heap.size) :
    Calls Tryd.prog 37 #[.agg #[.string (str a), .string (str b)], .string (str t)] w (RetB (.tuple #[.agg #[.string (str (writeR a b t).1), .string (str (writeR a b t).2.1)], .bool (writeR a b t).2.2]) w) := by
  have HN := Lib.hid (fun W => newSlotPair_c a b W)
  have HWr := Lib.hid (fun g B W h h2 h3 => write_c g B a b t ha hb ht W h h2 h3)
  have HP := Lib.hid hp
  clear hp
  obtain ⟨R, hR⟩ : ∃ R, R = writeR a b t := ⟨_, rfl⟩
  rw [← hR] at HWr ⊢
  have HS := Lib.hid (fun g W h => slots_c g R.1 R.2.1 W h)
  clear hR
  obtain ⟨r1, r2, r3⟩ := R
  simp only at HS HWr ⊢
  obtain ⟨W0, hW0⟩ : ∃ W0, W0 = (w.alloc (.cells #[.string (str a), .string (str b)] 53)).alloc (.cells #[.string ⟨#[]⟩, .string ⟨#[]⟩] 53) := ⟨_, rfl⟩
  have hB2 := blk_twoS w 53 53 [.string (str a), .string (str b)] [.string ⟨#[]⟩, .string ⟨#[]⟩]
  have X0 := Lib.hid (show Blk W0 w.heap.size 53 [.string (str a), .string (str b)] from hW0 ▸ hB2.1)
  have Y0 := Lib.hid (show Blk W0 (w.heap.size + 1) 53 [.string ⟨#[]⟩, .string ⟨#[]⟩] from hW0 ▸ hB2.2)
  have hs0 : W0.heap.size = w.heap.size + 1 + 1 := by rw [hW0]; simp
  have B0 := Lib.hid (show Below w.heap.size w W0 by rw [hW0]; go_grown)
  have P0 := Lib.hid (HP.out.below B0.out)
  have x00 := X0.out.cell (i := 0) rfl
  have x01 := X0.out.cell (i := 1) rfl
  have HW0 := Lib.hid hW0
  clear hW0 hB2
  go_enter Tryd.func37, Tryd.ntmps37
  go_wp2_with fail
  rw [← HW0.out]
  refine (HN.out _).mono ?_
  rintro e w1 ⟨rfl, s1, b1⟩
  rw [hs0] at s1
  have S1 := Lib.hid s1
  have Y1 := Lib.hid (Y0.out.up b1)
  have P1 := Lib.hid (P0.out.below (b1.mono (by omega)))
  have B1 := Lib.hid (B0.out.trans (b1.mono (by omega)))
  have hs1 := b1.size
  clear s1 b1 x00 x01
  go_wp2_with fail
  refine (HWr.out _ w.heap.size _ S1.out (by omega) P1.out).mono ?_
  rintro e w2 ⟨rfl, s2, g2⟩
  have S2 := Lib.hid s2
  have Y2 : Hid (Blk w2 (w.heap.size + 1) 53 [.string ⟨#[]⟩, .string ⟨#[]⟩]) := Lib.hid ((g2.block _ Y1.out.lt (by simp)).trans Y1.out)
  have B2 := Lib.hid (B1.out.trans (gb_below g2 (by omega) (by omega)))
  have hs2 := g2.size
  clear s2 g2
  go_wp2_with fail
  refine (HS.out _ _ S2.out).mono ?_
  rintro e w3 ⟨rfl, s3, g3⟩
  have Y3 : Hid (Blk w3 (w.heap.size + 1) 53 [.string ⟨#[]⟩, .string ⟨#[]⟩]) := Lib.hid ((g3.block _ Y2.out.lt (by simp)).trans Y2.out)
  have B3 := Lib.hid (B2.out.trans (gb_below g3 (by omega) (by omega)))
  have y30 := Y3.out.cell (i := 0) rfl
  have y31 := Y3.out.cell (i := 1) rfl
  have yf := Y3.out.free
  clear s3 g3
  go_wp2
  refine bodyPost_ret (v := .tuple #[.agg #[.string (str r1), .string (str r2)], .bool r3]) (by simp [results, Tryd.results37, go_sem, y30, y31]) rfl ?_
  go_light
  exact ⟨rfl, (B3.out.setCell (by simp) _).setCell (by simp) _⟩
end Go.Proofs.YtdbojdgppgphkaaDoor
