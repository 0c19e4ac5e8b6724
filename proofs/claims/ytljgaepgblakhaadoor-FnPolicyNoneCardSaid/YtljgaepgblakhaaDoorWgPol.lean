/- wgPolicy of two policies that read alike. Conditions: its own. -/
import Derived.Test.YtljgaepgblakhaaDoorPol2
import Derived.Test.YtljgaepgblakhaaDoorFits
import Derived.Test.YtljgaepgblakhaaDoorTstEq
import Derived.Deep.LoopGhost
namespace Go.Proofs.YtljgaepgblakhaaDoor
set_option linter.unusedSimpArgs false
open Go.RowKit
set_option linter.unusedVariables false
set_option linter.unnecessarySimpa false
set_option maxRecDepth 20000
theorem below_drewN {B : Nat} {w wr : World} (h : Below B w wr) (n : Nat) : Below B w (wr.drewN n) := ⟨h.os, h.tape, h.output, h.size, h.block⟩
set_option maxHeartbeats 1600000 in
theorem wgPolicy_c (A B : Option Addr) (c d : Nat) (rs : List Rl) (e : Int) (w : World) (hx : RdR w w.heap.size A rs.length rs) (hy : RdR w w.heap.size B rs.length rs) (hn : rs.length ≤ 9223372036854775807) :
    Calls Tryd.prog 22 #[.agg #[.slice A rs.length c, .int .i64 e], .agg #[.slice B rs.length d, .int .i64 e]] w (RetB (.bool true) w) := by
  have HX := Lib.hid hx
  have HY := Lib.hid hy
  have hB2 := blk_two w 25 25 [.slice A rs.length c, .int .i64 e] [.slice B rs.length d, .int .i64 e]
  have HP := Lib.hid hB2.1
  have HQ := Lib.hid hB2.2
  clear hx hy hB2
  go_enter Tryd.func22, Tryd.ntmps22
  go_wp2
  go_loopg [5] rs.length (fun gk i wr => ∃ (k : Nat), gk + k = rs.length ∧ i = .int .i64 k ∧ Hid (Below w.heap.size w wr) ∧ Hid (Blk wr w.heap.size 25 [.slice A rs.length c, .int .i64 e]) ∧ Hid (Blk wr (w.heap.size + 1) 25 [.slice B rs.length d, .int .i64 e]))
  case atStart => exact ⟨0, rfl, rfl, by show Below _ _ _; go_grown, HP, HQ⟩
  case round =>
    obtain ⟨k, hgk, rfl, HB, HP', HQ'⟩ := hrel
    have hbs := HB.out.size
    have p0 := HP'.out.cell (i := 0) rfl
    have q0 := HQ'.out.cell (i := 0) rfl
    by_cases hk : gk = 0
    · subst hk
      obtain rfl : k = rs.length := by omega
      go_wp2
      go_returns
      exact ⟨rfl, HB.out⟩
    · obtain ⟨gk, rfl⟩ : ∃ m, gk = m + 1 := ⟨gk - 1, by omega⟩
      have hlt : k < rs.length := by omega
      obtain ⟨b, off, r, rfl, hb, hp, TA, tc, c0, c1, c2, c3, hrt, hrl⟩ := (HX.out.below HB.out).rl hlt
      obtain ⟨b', off', r', rfl, hb', hq, TB, tb, d0, d1, d2, d3, hqt, hql⟩ := (HY.out.below HB.out).rl hlt
      have hrr : r' = r := by rw [hp] at hq; injection hq with hq; exact hq.symm
      subst hrr
      have GT := Lib.hid hrt
      have GU := Lib.hid hqt
      clear hp hq hrt hqt
      obtain ⟨wo, rfl⟩ : ∃ x : World, x = wr := ⟨_, rfl⟩
      obtain ⟨ga, rfl⟩ : ∃ x : Nat, x = gk := ⟨_, rfl⟩
      have zb : b ≠ wo.heap.size := by omega
      have zb' : b' ≠ wo.heap.size := by omega
      have zb2 : b' < wo.heap.size := by omega
      have zq := HQ'.out.lt
      have zp := HP'.out.lt
      have zq' : w.heap.size + 1 ≠ wo.heap.size := by omega
      have zp' : w.heap.size ≠ wo.heap.size := by omega
      have hX2 := blk_two wo 35 35 [.int .i64 r'.v, .int .i64 r'.lo, .int .i64 r'.hi, .slice TA r'.ts.length tc] [.int .i64 r'.v, .int .i64 r'.lo, .int .i64 r'.hi, .slice TB r'.ts.length tb]
      have HX1 := Lib.hid hX2.1
      have HY1 := Lib.hid hX2.2
      have HPa := Lib.hid ((HP'.out.alloc (.cells #[.int .i64 r'.v, .int .i64 r'.lo, .int .i64 r'.hi, .slice TA r'.ts.length tc] 35)).alloc (.cells #[.int .i64 r'.v, .int .i64 r'.lo, .int .i64 r'.hi, .slice TB r'.ts.length tb] 35))
      have HQa := Lib.hid ((HQ'.out.alloc (.cells #[.int .i64 r'.v, .int .i64 r'.lo, .int .i64 r'.hi, .slice TA r'.ts.length tc] 35)).alloc (.cells #[.int .i64 r'.v, .int .i64 r'.lo, .int .i64 r'.hi, .slice TB r'.ts.length tb] 35))
      have HBa := Lib.hid ((HB.out.alloc hbs (.cells #[.int .i64 r'.v, .int .i64 r'.lo, .int .i64 r'.hi, .slice TA r'.ts.length tc] 35)).alloc (by simp; omega) (.cells #[.int .i64 r'.v, .int .i64 r'.lo, .int .i64 r'.hi, .slice TB r'.ts.length tb] 35))
      clear hX2
      go_wp2
      go_loopg [8] r'.ts.length (fun gj i wr => ∃ (j : Nat), gj + j = r'.ts.length ∧ i = .int .i64 j ∧ Hid (Below w.heap.size w wr) ∧ Hid (Blk wr w.heap.size 25 [.slice (some ⟨b, off, none⟩) rs.length c, .int .i64 e]) ∧ Hid (Blk wr (w.heap.size + 1) 25 [.slice (some ⟨b', off', none⟩) rs.length d, .int .i64 e]) ∧
        Hid (Blk wr wo.heap.size 35 [.int .i64 r'.v, .int .i64 r'.lo, .int .i64 r'.hi, .slice TA r'.ts.length tc]) ∧ Hid (Blk wr (wo.heap.size + 1) 35 [.int .i64 r'.v, .int .i64 r'.lo, .int .i64 r'.hi, .slice TB r'.ts.length tb]) ∧ Hid (Below wo.heap.size wo wr))
      case atStart => exact ⟨0, rfl, rfl, HBa, HPa, HQa, HX1, HY1, by show Below _ _ _; go_grown⟩
      case round =>
        obtain ⟨j, hgj, rfl, HB2, HP2, HQ2, HX2, HY2, HW2⟩ := hrel
        have x3 := HX2.out.cell (i := 3) rfl
        have y3 := HY2.out.cell (i := 3) rfl
        by_cases hj : gk = 0
        · subst hj
          obtain rfl : j = r'.ts.length := by omega
          go_wp2
          go_roundg ga
          case measure => omega
          case rel =>
            go_light
            exact ⟨k + 1, by omega, by go_num, HB2, HP2, HQ2⟩
        · obtain ⟨gk, rfl⟩ : ∃ m, gk = m + 1 := ⟨gk - 1, by omega⟩
          have hlj : j < r'.ts.length := by omega
          obtain ⟨tb1, to1, t, hA1, htb1, ht1, e0, e1, e2, e3⟩ := ((GT.out.more hbs).below HW2.out).tst hlj
          obtain ⟨tb2, to2, t', hA2, htb2, ht2, f0, f1, f2, f3⟩ := ((GU.out.more hbs).below HW2.out).tst hlj
          have htt : t' = t := by rw [ht1] at ht2; injection ht2 with ht2; exact ht2.symm
          subst htt hA1 hA2
          clear ht1 ht2
          have hE := fun (W : World) => (eqTstAgg_run t'.f t'.m t'.op t'.x t'.f t'.m t'.op t'.x W).trans (by rw [tstEq_iff.2 rfl])
          go_wp2
          go_quiet (fail)
          go_wp2
          go_roundg gk
          case measure => omega
          case rel =>
            go_light
            exact ⟨j + 1, by omega, by go_num, below_drewN HB2.out nq, HP2.out, HQ2.out, HX2.out, HY2.out, below_drewN HW2.out nq⟩
end Go.Proofs.YtljgaepgblakhaaDoor
