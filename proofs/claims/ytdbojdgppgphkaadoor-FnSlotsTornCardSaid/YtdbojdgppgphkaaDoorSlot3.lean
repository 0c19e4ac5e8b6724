/- Two slots with a lock: the program's contracts. Conditions: each contract's own. -/
import Derived.Test.YtdbojdgppgphkaaDoorSlot2
import Derived.Test.YtdbojdgppgphkaaDoorLocks
import Derived.Conc.MuLone
namespace Go.Proofs.YtdbojdgppgphkaaDoor
set_option linter.unusedSimpArgs false
open Go.RowKit Go.MuLone
set_option linter.unusedVariables false
set_option linter.unnecessarySimpa false
set_option maxRecDepth 20000
/-- Two slots in a block of their own, the lock free. -/
def SP (w : World) (g T : Nat) (a b : List UInt8) : Prop := Blk w g T [.int .i32 0, .int .u32 0, .string (str a), .string (str b)]
/-- What was written last, its number, and the place of the next. -/
def lastR (a b : List UInt8) : List UInt8 × Int × Int :=
  if (slotR a).2 < (slotR b).2 then ((slotR b).1, (slotR b).2, 0) else if 0 < (slotR a).2 then ((slotR a).1, (slotR a).2, 1) else ([], 0, 0)
theorem newSlotPair_c (a b : List UInt8) (w : World) : Calls Tryd.prog 81 #[.agg #[.string (str a), .string (str b)]] w (fun e w' => e = .returned (.pointer (some ⟨w.heap.size + 1, 0, none⟩)) ∧ SP w' (w.heap.size + 1) 165 a b ∧ Below w.heap.size w w') := by
  generalize hA : str a = A
  generalize hB : str b = B
  have HA := Lib.hid hA
  have HB := Lib.hid hB
  clear hA hB
  go_enter Tryd.func81, Tryd.ntmps81
  go_wp2
  go_returns
  refine ⟨rfl, ?_, by go_grown⟩
  have := Blk.new (w.alloc (.cells #[.string A, .string B] 53)) 165 [.int .i32 0, .int .u32 0, .string A, .string B]
  unfold SP
  rw [HA.out, HB.out]
  simpa using this
theorem gn_step2 {w w1 w2 : World} {g : Nat} (h : w.grownBy w1 (some g)) (k : Below w1.heap.size w1 w2) : w.grownBy w2 (some g) :=
  ⟨k.os.trans h.os, k.tape.trans h.tape, k.output.trans h.output, Nat.le_trans h.size k.size, fun i hi hne => (k.block i (Nat.lt_of_lt_of_le hi h.size)).trans (h.block i hi hne)⟩
theorem slotR_pos (l : List UInt8) : 0 ≤ (slotR l).2 ∧ (slotR l).2 ≤ 9999 := by
  have := numV_le (most := 9999) (by omega) (l.drop 1)
  unfold slotR
  split
  · simp only; exact this
  · simp
set_option maxHeartbeats 1600000 in
set_option maxRecDepth 100000 in
theorem last_c (g : Nat) (a b : List UInt8) (ha : a.length ≤ 9223372036854775806) (hb : b.length ≤ 9223372036854775806) (w : World) (h : SP w g 165 a b) :
    Calls Tryd.prog 87 #[.pointer (some ⟨g, 0, none⟩)] w (fun e w' => e = .returned (.tuple #[.string (str (lastR a b).1), .int .i64 (lastR a b).2.1, .int .i64 (lastR a b).2.2]) ∧ SP w' g 165 a b ∧ w.grownBy w' (some g)) := by
  have hpa := slotR_pos a
  have hpb := slotR_pos b
  have HCA := Lib.hid (fun W => slotOf_c a ha W)
  have HCB := Lib.hid (fun W => slotOf_c b hb W)
  have h0 := h.cell (i := 0) rfl
  have f0 := h.free 0
  have X1 := Lib.hid (h.set_ 0 (.int .i32 1))
  have x12 := X1.out.cell (i := 2) rfl
  have x13 := X1.out.cell (i := 3) rfl
  have G1 := Lib.hid (grg_set (grg_refl w g) 0 (.int .i32 1))
  have HL : Hid (lastR a b = if (slotR a).2 < (slotR b).2 then ((slotR b).1, (slotR b).2, 0) else if 0 < (slotR a).2 then ((slotR a).1, (slotR a).2, 1) else ([], 0, 0)) := Lib.hid rfl
  obtain ⟨R, hR⟩ : ∃ R, R = lastR a b := ⟨_, rfl⟩
  rw [← hR] at HL ⊢
  clear hR
  generalize (slotR a).1 = sa at *
  generalize (slotR a).2 = na at *
  generalize (slotR b).1 = sb at *
  generalize (slotR b).2 = nb at *
  obtain ⟨hpa1, hpa2⟩ := hpa
  obtain ⟨hpb1, hpb2⟩ := hpb
  unfold SP at h ⊢
  generalize str a = A at *
  generalize str b = B at *
  have HG := Lib.hid h
  clear h
  go_enter_defers Tryd.func87, Tryd.ntmps87
  go_wp2_with (go_at_call 120; refine (lock_free Tryd.muLib ⟨g, 0, none⟩ _ h0 f0).mono ?_; rintro e w' ⟨rfl, rfl⟩)
  have i0 : ∀ W, (Instr.index 157 (.agg #[.string A, .string B]) (.int .i64 0)).run Tryd.prog W = .ok (.string A) W := fun _ => by kernel_rfl
  have i1 : ∀ W, (Instr.index 157 (.agg #[.string A, .string B]) (.int .i64 1)).run Tryd.prog W = .ok (.string B) W := fun _ => by kernel_rfl
  refine wp_loop_rounds 3 ?_
  rw [rounds_succ]
  go_wp2_with fail
  refine (HCA.out _).mono ?_
  rintro e w2 ⟨rfl, b2⟩
  have X2 := Lib.hid (X1.out.below b2 (by have := X1.out.lt; simpa using this))
  have G2 := Lib.hid (gn_step2 G1.out b2)
  clear b2
  by_cases h1 : 0 < na
  all_goals
    go_wp2_with fail
    rw [rounds_succ]
    go_wp2_with fail
    refine (HCB.out _).mono ?_
    rintro e w3 ⟨rfl, b3⟩
    have X3 := Lib.hid (X2.out.up b3)
    have G3 := Lib.hid (gn_step2 G2.out b3)
    have hL3 : w3.cell? ⟨g, 0, none⟩ = some (.int .i32 1) := X3.out.cell (i := 0) rfl
    have hF3 : w3.frozen? ⟨g, 0, none⟩ = false := X3.out.free 0
    have X4 := Lib.hid (X3.out.set_ 0 (.int .i32 0))
    have G4 := Lib.hid (grg_set G3.out 0 (.int .i32 0))
    clear b3
    by_cases h2 : na < nb
    · have hRe : Hid (R = (sb, nb, 0)) := Lib.hid (by rw [HL.out, if_pos h2])
      go_wp2_with fail
      rw [rounds_succ]
      go_wp2_with fail
      refine leaves_cons (f := 121) (args := #[.pointer (some ⟨g, 0, none⟩)]) (by simp) (by simp [go_sem]) ?_
      refine (unlock_deferred Tryd.muLib ⟨g, 0, none⟩ .returning _ hL3 hF3).mono ?_
      rintro e u' w'' ⟨rfl, rfl, rfl⟩
      refine ⟨_, results_tmp3 rfl _ _ _, ?_⟩
      rw [hRe.out]
      exact ⟨rfl, X4.out, G4.out⟩
    · have hRe : Hid (R = if 0 < na then (sa, na, 1) else ([], 0, 0)) := Lib.hid (by rw [HL.out, if_neg h2])
      first
        | rw [if_pos (by omega)] at hRe
        | rw [if_neg (by omega)] at hRe
      go_wp2_with fail
      rw [rounds_succ]
      go_wp2_with fail
      refine leaves_cons (f := 121) (args := #[.pointer (some ⟨g, 0, none⟩)]) (by simp) (by simp [go_sem]) ?_
      refine (unlock_deferred Tryd.muLib ⟨g, 0, none⟩ .returning _ hL3 hF3).mono ?_
      rintro e u' w'' ⟨rfl, rfl, rfl⟩
      refine ⟨_, results_tmp3 rfl _ _ _, ?_⟩
      rw [hRe.out]
      exact ⟨rfl, X4.out, G4.out⟩
theorem slotsRead_c (a b : List UInt8) (ha : a.length ≤ 9223372036854775806) (hb : b.length ≤ 9223372036854775806) (w : World) :
    Calls Tryd.prog 42 #[.agg #[.string (str a), .string (str b)]] w (RetB (.tuple #[.string (str (lastR a b).1), .int .i64 (lastR a b).2.1]) w) := by
  have HN := Lib.hid (fun W => newSlotPair_c a b W)
  have HL := Lib.hid (fun g W h => last_c g a b ha hb W h)
  generalize lastR a b = R at *
  have HSP : Hid (∀ W g T, SP W g T a b → g < W.heap.size) := Lib.hid (fun W g T h => h.lt)
  generalize hA : str a = A at *
  generalize hB : str b = B at *
  clear hA hB
  go_enter Tryd.func42, Tryd.ntmps42
  go_wp2_with fail
  refine (HN.out _).mono ?_
  rintro e w1 ⟨rfl, s1, b1⟩
  simp only [World.size_alloc] at s1
  have S1 := Lib.hid s1
  have hs1 := b1.size
  simp at hs1
  have B1 := Lib.hid (below_via (w := w) (by go_grown) b1)
  clear s1 b1
  go_wp2_with fail
  refine (HL.out _ _ S1.out).mono ?_
  rintro e w2 ⟨rfl, s2, g2⟩
  have B2 := Lib.hid (B1.out.grown g2 (by omega) (fun k e => by injection e with e; omega))
  clear s2 g2
  go_wp2
  go_returns
  exact ⟨rfl, B2.out⟩
theorem specSlotsRead_c (a b : List UInt8) (ha : a.length ≤ 9223372036854775806) (hb : b.length ≤ 9223372036854775806) (w : World) :
    Calls Tryd.prog 43 #[.agg #[.string (str a), .string (str b)]] w (RetB (.tuple #[.string (str (lastR a b).1), .int .i64 (lastR a b).2.1]) w) := by
  have hpa := slotR_pos a
  have hpb := slotR_pos b
  have HCA := Lib.hid (fun W => l8Read_c a ha W)
  have HCB := Lib.hid (fun W => l8Read_c b hb W)
  have h0 : (slotR a).2 = 0 → (slotR a).1 = [] := fun h => by
    unfold slotR at h ⊢
    split at h
    · rename_i hc
      simp only [Bool.and_eq_true, decide_eq_true_eq] at hc
      simp only at h
      omega
    · rename_i hc
      rw [if_neg hc]
  have HL : Hid (lastR a b = if (slotR a).2 < (slotR b).2 then ((slotR b).1, (slotR b).2, 0) else if 0 < (slotR a).2 then ((slotR a).1, (slotR a).2, 1) else ([], 0, 0)) := Lib.hid rfl
  have H0 := Lib.hid h0
  obtain ⟨R, hR⟩ : ∃ R, R = lastR a b := ⟨_, rfl⟩
  rw [← hR] at HL ⊢
  clear hR h0
  generalize (slotR a).1 = sa at *
  generalize (slotR a).2 = na at *
  generalize (slotR b).1 = sb at *
  generalize (slotR b).2 = nb at *
  obtain ⟨hpa1, hpa2⟩ := hpa
  obtain ⟨hpb1, hpb2⟩ := hpb
  generalize str a = A at *
  generalize str b = B at *
  by_cases h2 : na < nb
  · have hRe : Hid (R = (sb, nb, 0)) := Lib.hid (by rw [HL.out, if_pos h2])
    rw [hRe.out]
    clear HL hRe H0
    go_enter Tryd.func43, Tryd.ntmps43
    (go_wp2_with fail); (go_at_call 88; refine (HCA.out _).mono ?_; rintro e w1 ⟨rfl, b1⟩; obtain ⟨gc1, gf1⟩ := below_get b1; (try simp only [heap_drew, World.size_alloc, World.size_setCell] at gc1 gf1); have s1 := below_via (w := w) (by go_grown) b1; have H1 := s1; have hs1 := b1.size; (try simp at hs1); have z1_0 : w.heap.size < w1.heap.size := (by omega); clear b1)
    (go_wp2_with fail); (go_at_call 88; refine (HCB.out _).mono ?_; rintro e w2 ⟨rfl, b2⟩; obtain ⟨gc2, gf2⟩ := below_get b2; (try simp only [heap_drew, World.size_alloc, World.size_setCell] at gc2 gf2); have s2 := below_via (w := w1) (by go_grown) b2; have H2 := below_via H1 s2; have hs2 := b2.size; (try simp at hs2); have z2_0 : w.heap.size < w2.heap.size := (by omega); clear b2)
    go_wp2
    go_returns
    exact ⟨rfl, by go_grown⟩
  · have hRe : Hid (R.1 = sa ∧ R.2.1 = na) := Lib.hid (by
      rw [HL.out, if_neg h2]
      by_cases h : 0 < na
      · rw [if_pos h]; exact ⟨rfl, rfl⟩
      · rw [if_neg h]
        have : na = 0 := by omega
        exact ⟨(H0.out this).symm, this.symm⟩)
    rw [hRe.out.1, hRe.out.2]
    clear HL hRe H0
    go_enter Tryd.func43, Tryd.ntmps43
    (go_wp2_with fail); (go_at_call 88; refine (HCA.out _).mono ?_; rintro e w1 ⟨rfl, b1⟩; obtain ⟨gc1, gf1⟩ := below_get b1; (try simp only [heap_drew, World.size_alloc, World.size_setCell] at gc1 gf1); have s1 := below_via (w := w) (by go_grown) b1; have H1 := s1; have hs1 := b1.size; (try simp at hs1); have z1_0 : w.heap.size < w1.heap.size := (by omega); clear b1)
    (go_wp2_with fail); (go_at_call 88; refine (HCB.out _).mono ?_; rintro e w2 ⟨rfl, b2⟩; obtain ⟨gc2, gf2⟩ := below_get b2; (try simp only [heap_drew, World.size_alloc, World.size_setCell] at gc2 gf2); have s2 := below_via (w := w1) (by go_grown) b2; have H2 := below_via H1 s2; have hs2 := b2.size; (try simp at hs2); have z2_0 : w.heap.size < w2.heap.size := (by omega); clear b2)
    go_wp2
    go_returns
    exact ⟨rfl, by go_grown⟩
end Go.Proofs.YtdbojdgppgphkaaDoor
