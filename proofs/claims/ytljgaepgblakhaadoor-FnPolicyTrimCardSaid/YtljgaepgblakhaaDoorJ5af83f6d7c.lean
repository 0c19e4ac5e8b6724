/- Whether a rule covers another one: both sides; the closure that asks. Conditions: each contract's own. -/
import Derived.Test.YtljgaepgblakhaaDoorJa52a521f27
import Derived.Test.YtljgaepgblakhaaDoorJe7a74fa2e4
import Derived.Test.YtljgaepgblakhaaDoorJ3c174a0ccb
import Derived.Deep.LoopGhost
namespace Go.Proofs.YtljgaepgblakhaaDoor
set_option linter.unusedSimpArgs false
open Go.RowKit
set_option linter.unusedVariables false
set_option linter.unnecessarySimpa false
set_option maxRecDepth 20000
/-- The place of a test among others; -1 of none. -/
def idxT (ts : List Tst) (t : Tst) : Int := match ts.findIdx? (fun x => decide (x = t)) with | some k => (k : Int) | none => -1
theorem idxT_mem (ts : List Tst) (t : Tst) : decide (0 ≤ idxT ts t) = decide (t ∈ ts) := by
  unfold idxT
  cases h : ts.findIdx? (fun x => decide (x = t)) with
  | none =>
    rw [List.findIdx?_eq_none_iff] at h
    have : t ∉ ts := fun hm => by have := h t hm; simp at this
    simp [this]
  | some k =>
    obtain ⟨hk, hp, _⟩ := List.findIdx?_eq_some_iff_getElem.1 h
    have e : ts[k] = t := by simpa using hp
    have : t ∈ ts := e ▸ List.getElem_mem hk
    simp [this]
theorem idxT_at {ts : List Tst} {t x : Tst} {k : Nat} (hx : ts[k]? = some x) (he : x = t) (hb : (ts.take k).all (fun y => !decide (y = t)) = true) : idxT ts t = (k : Int) := by
  unfold idxT
  rw [(find_at (p := fun y => decide (y = t)) hx (by simpa using he) hb).2]
theorem idxT_none {ts : List Tst} {t : Tst} (hb : ts.all (fun y => !decide (y = t)) = true) : idxT ts t = -1 := by
  unfold idxT
  rw [(find_none (p := fun y => decide (y = t)) hb).2]
theorem cov_all {a r : Rl} : covB a r = (decide (a.lo ≤ r.lo) && (decide (r.hi ≤ a.hi) && a.ts.all (fun t => decide (t ∈ r.ts)))) := rfl
set_option maxHeartbeats 1600000 in
theorem indexT_c (A : Option Addr) (n c : Nat) (ts : List Tst) (t : Tst) (w : World) (hr : Rd w w.heap.size 4 A n (tsts ts)) (hn : n ≤ 9223372036854775807) :
    Calls Tryd.prog 157 #[.slice A n c, .agg #[.int .i64 t.f, .int .i64 t.m, .int .i64 t.op, .int .i64 t.x]] w (RetB (.int .i64 (idxT ts t)) w) := by
  have hl : ts.length = n := by have := hr.1; rw [tsts_len] at this; omega
  have HR := Lib.hid hr
  have HL := Lib.hid hl
  have HB := Lib.hid (Blk.new w 83 [.int .i64 t.f, .int .i64 t.m, .int .i64 t.op, .int .i64 t.x])
  clear hr hl
  go_enter Tryd.func157, Tryd.ntmps157
  go_wp2
  go_loopg [8] n (fun gk i wr => ∃ k : Nat, gk + k = n ∧ i = .int .i64 k ∧ Hid ((ts.take k).all (fun y => !decide (y = t)) = true) ∧ Hid (Blk wr w.heap.size 83 [.int .i64 t.f, .int .i64 t.m, .int .i64 t.op, .int .i64 t.x]) ∧ Hid (Below w.heap.size w wr))
  case atStart => exact ⟨0, by omega, by rfl, Lib.hid (by simp), HB, by show Below _ _ _; go_grown⟩
  case round =>
    obtain ⟨k, hgk, rfl, HAL, HB, HF⟩ := hrel
    have hbs := HF.out.size
    have k0 := HB.out.cell (i := 0) rfl
    have k1 := HB.out.cell (i := 1) rfl
    have k2 := HB.out.cell (i := 2) rfl
    have k3 := HB.out.cell (i := 3) rfl
    by_cases hk : gk = 0
    · subst hk
      obtain rfl : k = n := by omega
      have e1 : ts.take k = ts := List.take_of_length_le (by have := HL.out; omega)
      rw [e1] at HAL
      have HE := Lib.hid (idxT_none HAL.out)
      clear e1
      go_wp2
      go_returns
      rw [HE.out]
      exact ⟨rfl, HF.out⟩
    · obtain ⟨gk, rfl⟩ : ∃ m, gk = m + 1 := ⟨gk - 1, by omega⟩
      have hlt : k < n := by omega
      obtain ⟨b, off, x, rfl, hb, hx, c0, c1, c2, c3⟩ := (HR.out.below HF.out).tst hlt
      have HX := Lib.hid hx
      clear hx
      by_cases he : x = t
      · have HE := Lib.hid (idxT_at HX.out he HAL.out)
        have hE := fun (W : World) => (eqTstAgg_run t.f t.m t.op t.x x.f x.m x.op x.x W).trans (by rw [tstEq_iff.2 he.symm])
        clear he
        go_wp2
        go_quiet (fail)
        go_wp2
        go_returns
        rw [HE.out]
        exact ⟨rfl, below_drewN HF.out nq⟩
      · have hne : tstEq t x = false := by
          cases h : tstEq t x with
          | false => rfl
          | true => exact absurd (tstEq_iff.1 h).symm he
        have hE := fun (W : World) => (eqTstAgg_run t.f t.m t.op t.x x.f x.m x.op x.x W).trans (by rw [show (⟨t.f, t.m, t.op, t.x⟩ : Tst) = t from rfl, show (⟨x.f, x.m, x.op, x.x⟩ : Tst) = x from rfl, hne])
        have HN := Lib.hid he
        clear he hne
        go_wp2
        go_quiet (fail)
        go_wp2
        go_roundg gk
        case measure => omega
        case rel =>
          go_light
          exact ⟨k + 1, by omega, by go_num, by show _ = true; rw [take_all _ _ _ _ HX.out, HAL.out]; simp [HN.out], HB.out, below_drewN HF.out nq⟩
theorem containsT_c (A : Option Addr) (n c : Nat) (ts : List Tst) (t : Tst) (w : World) (hr : Rd w w.heap.size 4 A n (tsts ts)) (hn : n ≤ 9223372036854775807) :
    Calls Tryd.prog 121 #[.slice A n c, .agg #[.int .i64 t.f, .int .i64 t.m, .int .i64 t.op, .int .i64 t.x]] w (RetB (.bool (decide (t ∈ ts))) w) := by
  have HR := Lib.hid hr
  have HC := Lib.hid (fun W h => indexT_c A n c ts t W h hn)
  have HM := Lib.hid (idxT_mem ts t)
  clear hr
  generalize idxT ts t = v at *
  go_enter Tryd.func121, Tryd.ntmps121
  (go_wp2_with fail); (go_at_call 157; refine (HC.out _ (HR.out.upB (by go_grown) (by go_size))).mono ?_; rintro e w1 ⟨rfl, b1⟩; obtain ⟨gc1, gf1⟩ := below_get b1; (try simp only [heap_drew, World.size_alloc, World.size_setCell] at gc1 gf1); have s1 := below_via (w := w) (by go_grown) b1; have H1 := s1; have hs1 := b1.size; (try simp at hs1); clear b1)
  go_wp2
  all_goals go_returns
  all_goals (refine ⟨retv ?_, by go_grown⟩)
  all_goals rw [← HM.out]
  all_goals go_light
  all_goals simp_all
set_option maxHeartbeats 3200000 in
theorem covers_c (a r : Rl) (TA TB : Option Addr) (tc tb : Nat) (w : World) (ha : Rd w w.heap.size 4 TA a.ts.length (tsts a.ts)) (hr : Rd w w.heap.size 4 TB r.ts.length (tsts r.ts)) (hal : a.ts.length ≤ 9223372036854775807) (hrl : r.ts.length ≤ 9223372036854775807) :
    Calls Tryd.prog 87 #[.agg #[.int .i64 a.v, .int .i64 a.lo, .int .i64 a.hi, .slice TA a.ts.length tc], .agg #[.int .i64 r.v, .int .i64 r.lo, .int .i64 r.hi, .slice TB r.ts.length tb]] w (RetB (.bool (covB a r)) w) := by
  have HA := Lib.hid ha
  have HR := Lib.hid hr
  have hB2 := blk_two w 35 35 [.int .i64 a.v, .int .i64 a.lo, .int .i64 a.hi, .slice TA a.ts.length tc] [.int .i64 r.v, .int .i64 r.lo, .int .i64 r.hi, .slice TB r.ts.length tb]
  have HB1 := Lib.hid hB2.1
  have HB2 := Lib.hid hB2.2
  clear ha hr hB2
  by_cases h1 : a.lo ≤ r.lo
  · have g1 : decide (r.lo < a.lo) = false := by simp; omega
    by_cases h2 : r.hi ≤ a.hi
    · have g2 : decide (a.hi < r.hi) = false := by simp; omega
      have hcv : covB a r = a.ts.all (fun t => decide (t ∈ r.ts)) := by rw [cov_all]; simp [h1, h2]
      rw [hcv]
      clear h1 h2 hcv
      go_enter Tryd.func87, Tryd.ntmps87
      go_wp2
      go_loopg [22] a.ts.length (fun gk i wr => ∃ k : Nat, gk + k = a.ts.length ∧ i = .int .i64 k ∧ Hid ((a.ts.take k).all (fun t => decide (t ∈ r.ts)) = true) ∧ Hid (Blk wr (w.heap.size + 1) 35 [.int .i64 r.v, .int .i64 r.lo, .int .i64 r.hi, .slice TB r.ts.length tb]) ∧ Hid (Below w.heap.size w wr))
      case atStart => exact ⟨0, by omega, by rfl, Lib.hid (by simp), HB2, by show Below _ _ _; go_grown⟩
      case round =>
        obtain ⟨k, hgk, rfl, HAL, HB, HF⟩ := hrel
        have hbs := HF.out.size
        have k3 := HB.out.cell (i := 3) rfl
        have kz := HB.out.lt
        by_cases hk : gk = 0
        · subst hk
          obtain rfl : k = a.ts.length := by omega
          rw [List.take_length] at HAL
          go_wp2
          go_returns
          rw [HAL.out]
          exact ⟨rfl, HF.out⟩
        · obtain ⟨gk, rfl⟩ : ∃ m, gk = m + 1 := ⟨gk - 1, by omega⟩
          have hlt : k < a.ts.length := by omega
          obtain ⟨b, off, t, rfl, hb, ht, c0, c1, c2, c3⟩ := (HA.out.below HF.out).tst hlt
          have HX := Lib.hid ht
          have HC := Lib.hid (fun W h => containsT_c TB r.ts.length tb r.ts t W h hrl)
          clear ht
          cases hm : decide (t ∈ r.ts) with
          | true =>
            have HM := Lib.hid hm
            rw [hm] at HC
            clear hm
            (go_wp2_with fail); (go_at_call 121; refine (HC.out _ ((HR.out.below (below_via HF.out (by go_grown))).more (by (try simp); omega))).mono ?_; rintro e w1 ⟨rfl, b1⟩; have L1 := Lib.hid (below_on HF.out (by go_grown) b1); have B1 := Lib.hid ((HB.out.alloc _).up b1); clear b1)
            go_wp2
            go_roundg gk
            case measure => omega
            case rel =>
              go_light
              exact ⟨k + 1, by omega, by go_num, by show _ = true; rw [take_all _ _ _ _ HX.out, HAL.out, HM.out]; rfl, B1, L1⟩
          | false =>
            have HM := Lib.hid (all_false (fun t => decide (t ∈ r.ts)) a.ts k t HX.out hm)
            rw [hm] at HC
            clear hm
            (go_wp2_with fail); (go_at_call 121; refine (HC.out _ ((HR.out.below (below_via HF.out (by go_grown))).more (by (try simp); omega))).mono ?_; rintro e w1 ⟨rfl, b1⟩; have L1 := Lib.hid (below_on HF.out (by go_grown) b1); clear b1)
            go_wp2
            go_returns
            rw [HM.out]
            exact ⟨rfl, L1.out⟩
    · have g2 : decide (a.hi < r.hi) = true := by simp; omega
      have hcv : covB a r = false := by rw [cov_all]; simp [h2]
      rw [hcv]
      clear h1 h2 hcv
      go_enter Tryd.func87, Tryd.ntmps87
      go_wp2
      go_returns
      exact ⟨rfl, by go_grown⟩
  · have g1 : decide (r.lo < a.lo) = true := by simp; omega
    have hcv : covB a r = false := by rw [cov_all]; simp [h1]
    rw [hcv]
    clear h1 hcv
    go_enter Tryd.func87, Tryd.ntmps87
    go_wp2
    go_returns
    exact ⟨rfl, by go_grown⟩
end Go.Proofs.YtljgaepgblakhaaDoor
