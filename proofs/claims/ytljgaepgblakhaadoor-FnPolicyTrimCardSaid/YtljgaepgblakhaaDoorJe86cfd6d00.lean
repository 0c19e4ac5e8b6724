/- The specification's l13Covers. Conditions: its own. -/
import Derived.Test.YtljgaepgblakhaaDoorJ5af83f6d7c
namespace Go.Proofs.YtljgaepgblakhaaDoor
set_option linter.unusedSimpArgs false
open Go.RowKit
set_option linter.unusedVariables false
set_option linter.unnecessarySimpa false
set_option maxRecDepth 20000
theorem mem_take {ts : List Tst} {t x : Tst} {m : Nat} (h : ts[m]? = some x) : decide (t ∈ ts.take (m + 1)) = (decide (t ∈ ts.take m) || decide (t = x)) := by
  rw [List.take_add_one, h]
  simp [Bool.decide_or]
set_option maxHeartbeats 6400000 in
set_option maxRecDepth 100000 in
theorem l13Covers_c (a r : Rl) (TA TB : Option Addr) (tc tb : Nat) (w : World) (ha : Rd w w.heap.size 4 TA a.ts.length (tsts a.ts)) (hr : Rd w w.heap.size 4 TB r.ts.length (tsts r.ts)) (hal : a.ts.length ≤ 9223372036854775807) (hrl : r.ts.length ≤ 9223372036854775807) :
    Calls Tryd.prog 88 #[.agg #[.int .i64 a.v, .int .i64 a.lo, .int .i64 a.hi, .slice TA a.ts.length tc], .agg #[.int .i64 r.v, .int .i64 r.lo, .int .i64 r.hi, .slice TB r.ts.length tb]] w (RetB (.bool (covB a r)) w) := by
  have HA := Lib.hid ha
  have HR := Lib.hid hr
  have hB2 := blk_two w 35 35 [.int .i64 a.v, .int .i64 a.lo, .int .i64 a.hi, .slice TA a.ts.length tc] [.int .i64 r.v, .int .i64 r.lo, .int .i64 r.hi, .slice TB r.ts.length tb]
  have HB1 := Lib.hid hB2.1
  have HB2 := Lib.hid hB2.2
  clear ha hr hB2
  go_enter Tryd.func88, Tryd.ntmps88
  go_wp2
  go_loopg [5] a.ts.length (fun gk i wr => ∃ k : Nat, gk + k = a.ts.length ∧ i = .int .i64 k ∧ Hid ((a.ts.take k).all (fun t => decide (t ∈ r.ts)) = true) ∧ Hid (Blk wr w.heap.size 35 [.int .i64 a.v, .int .i64 a.lo, .int .i64 a.hi, .slice TA a.ts.length tc]) ∧ Hid (Blk wr (w.heap.size + 1) 35 [.int .i64 r.v, .int .i64 r.lo, .int .i64 r.hi, .slice TB r.ts.length tb]) ∧ Hid (Below w.heap.size w wr))
  case atStart => exact ⟨0, by omega, by rfl, Lib.hid (by simp), HB1, HB2, by show Below _ _ _; go_grown⟩
  case round =>
    obtain ⟨k, hgk, rfl, HAL, HB1, HB2, HF⟩ := hrel
    have hbs := HF.out.size
    have a1 := HB1.out.cell (i := 1) rfl
    have a2 := HB1.out.cell (i := 2) rfl
    have a3 := HB1.out.cell (i := 3) rfl
    have b1 := HB2.out.cell (i := 1) rfl
    have b2 := HB2.out.cell (i := 2) rfl
    have b3 := HB2.out.cell (i := 3) rfl
    by_cases hk : gk = 0
    · subst hk
      obtain rfl : k = a.ts.length := by omega
      rw [List.take_length] at HAL
      have hcv : covB a r = (decide (a.lo ≤ r.lo) && decide (r.hi ≤ a.hi)) := by rw [cov_all, HAL.out, Bool.and_true]
      have HCV := Lib.hid hcv
      clear hcv
      by_cases h1 : a.lo ≤ r.lo
      · have g1 : decide (a.lo ≤ r.lo) = true := by simpa using h1
        by_cases h2 : r.hi ≤ a.hi
        · have g2 : decide (r.hi ≤ a.hi) = true := by simpa using h2
          go_wp2
          go_returns
          rw [HCV.out, g1, g2]
          exact ⟨rfl, HF.out⟩
        · have g2 : decide (r.hi ≤ a.hi) = false := by simpa using h2
          go_wp2
          go_returns
          rw [HCV.out, g1, g2]
          exact ⟨rfl, HF.out⟩
      · have g1 : decide (a.lo ≤ r.lo) = false := by simpa using h1
        go_wp2
        go_returns
        rw [HCV.out, g1]
        exact ⟨rfl, HF.out⟩
    · obtain ⟨gk, rfl⟩ : ∃ m, gk = m + 1 := ⟨gk - 1, by omega⟩
      have hlt : k < a.ts.length := by omega
      obtain ⟨b, off, t, rfl, hb, ht, c0, c1, c2, c3⟩ := (HA.out.below HF.out).tst hlt
      have HX := Lib.hid ht
      clear ht c0 c1 c2 c3
      obtain ⟨ga, rfl⟩ : ∃ x : Nat, x = gk := ⟨_, rfl⟩
      obtain ⟨wo, rfl⟩ : ∃ x : World, x = wr := ⟨_, rfl⟩
      go_wp2
      go_loopg [6, 7] r.ts.length (fun gj f j wr => ∃ m : Nat, gj + m = r.ts.length ∧ j = .int .i64 m ∧ f = .bool (decide (t ∈ r.ts.take m)) ∧ Hid (Blk wr w.heap.size 35 [.int .i64 a.v, .int .i64 a.lo, .int .i64 a.hi, .slice (some ⟨b, off, none⟩) a.ts.length tc]) ∧ Hid (Blk wr (w.heap.size + 1) 35 [.int .i64 r.v, .int .i64 r.lo, .int .i64 r.hi, .slice TB r.ts.length tb]) ∧ Hid (Below w.heap.size w wr))
      case atStart => exact ⟨0, by omega, by rfl, by simp, HB1, HB2, HF⟩
      case round =>
        obtain ⟨m, hgm, rfl, rfl, HB1', HB2', HF'⟩ := hrel
        clear HB1 HB2 HF a1 a2 a3 b1 b2 b3
        have a3 := HB1'.out.cell (i := 3) rfl
        have b3 := HB2'.out.cell (i := 3) rfl
        by_cases hj : gk = 0
        · subst hj
          obtain rfl : m = r.ts.length := by omega
          rw [List.take_length]
          cases hm : decide (t ∈ r.ts) with
          | true =>
            have HM := Lib.hid hm
            clear hm
            go_wp2
            go_roundg ga
            case measure => omega
            case rel =>
              go_light
              exact ⟨k + 1, by omega, by go_num, by show _ = true; rw [take_all _ _ _ _ HX.out, HAL.out, HM.out]; rfl, HB1', HB2', HF'⟩
          | false =>
            have HM := Lib.hid (all_false (fun t => decide (t ∈ r.ts)) a.ts k t HX.out hm)
            clear hm
            go_wp2
            go_returns
            have hcv : covB a r = false := by rw [cov_all, HM.out, Bool.and_false, Bool.and_false]
            rw [hcv]
            exact ⟨rfl, HF'.out⟩
        · obtain ⟨gk, rfl⟩ : ∃ x, gk = x + 1 := ⟨gk - 1, by omega⟩
          have hlm : m < r.ts.length := by omega
          obtain ⟨b0, off0, t0, hA0, hb0, ht0, c0, c1, c2, c3⟩ := (HA.out.below HF'.out).tst hlt
          obtain ⟨b', off', x, rfl, hb', hx, d0, d1, d2, d3⟩ := (HR.out.below HF'.out).tst hlm
          have et : t0 = t := by have := HX.out; rw [ht0] at this; injection this
          injection hA0 with hA0
          injection hA0 with e1 e2
          subst et e1 e2
          have HMT := Lib.hid (mem_take (t := t0) hx)
          clear ht0 hx
          cases hm : decide (t0 ∈ r.ts.take m) with
          | true =>
            have HM : Hid (decide (t0 ∈ r.ts.take (m + 1)) = true) := Lib.hid (by rw [HMT.out, hm]; rfl)
            clear hm
            go_wp2
            go_quiet (fail)
            go_wp2
            go_roundg gk
            case measure => omega
            case rel =>
              go_light
              exact ⟨m + 1, by omega, by go_num, by rw [HM.out], HB1'.out, HB2'.out, below_drewN HF'.out nq⟩
          | false =>
            have HM : Hid (decide (t0 ∈ r.ts.take (m + 1)) = tstEq t0 x) := Lib.hid (by
              rw [HMT.out, hm, Bool.false_or]
              cases h : tstEq t0 x with
              | true => simp [tstEq_iff.1 h]
              | false =>
                have : ¬ t0 = x := fun e => by rw [tstEq_iff.2 e] at h; cases h
                simp [this])
            have hE := fun (W : World) => (eqTstAgg_run t0.f t0.m t0.op t0.x x.f x.m x.op x.x W)
            rw [show (⟨t0.f, t0.m, t0.op, t0.x⟩ : Tst) = t0 from rfl, show (⟨x.f, x.m, x.op, x.x⟩ : Tst) = x from rfl] at hE
            clear hm
            generalize tstEq t0 x = bb at *
            go_wp2
            go_quiet (fail)
            go_wp2
            go_roundg gk
            case measure => omega
            case rel =>
              go_light
              exact ⟨m + 1, by omega, by go_num, by rw [HM.out], HB1'.out, HB2'.out, below_drewN HF'.out nq⟩
end Go.Proofs.YtljgaepgblakhaaDoor
