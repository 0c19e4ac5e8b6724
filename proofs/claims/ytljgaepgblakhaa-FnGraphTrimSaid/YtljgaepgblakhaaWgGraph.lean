/- wgGraph of two graphs that read alike. Conditions: its own. -/
import Derived.Test.YtljgaepgblakhaaPtEq
import Derived.Deep.LoopGhost
import Derived.Deep.QuietTactic
import Derived.BigQuiet
namespace Go.Proofs.Ytljgaepgblakhaa
set_option linter.unusedSimpArgs false
open Go.RowKit
set_option linter.unusedVariables false
set_option linter.unnecessarySimpa false
set_option maxRecDepth 20000
set_option maxHeartbeats 1600000 in
theorem wgGraph_c (A B : Option Addr) (n c d : Nat) (ps : List Pt) (w : World) (hx : Rd w w.heap.size 7 A n (pts ps)) (hy : Rd w w.heap.size 7 B n (pts ps)) (hn : n ≤ 9223372036854775807) :
    Calls Try.prog 6 #[.slice A n c, .slice B n d] w (RetB (.bool true) w) := by
  have HX := Lib.hid hx
  have HY := Lib.hid hy
  clear hx hy
  go_enter Try.func6, Try.ntmps6
  go_wp2
  go_loopg [5] n (fun gk i wr => ∃ (k : Nat), gk + k = n ∧ i = .int .i64 k ∧ Hid (Below w.heap.size w wr))
  case atStart => exact ⟨0, by omega, rfl, by show Below _ _ _; go_grown⟩
  case round =>
    obtain ⟨k, hgk, rfl, HB⟩ := hrel
    have hbs := HB.out.size
    by_cases hk : gk = 0
    · subst hk
      obtain rfl : k = n := by omega
      go_wp2
      go_returns
      exact ⟨rfl, HB.out⟩
    · obtain ⟨gk, rfl⟩ : ∃ m, gk = m + 1 := ⟨gk - 1, by omega⟩
      have hlt : k < n := by omega
      obtain ⟨b, off, p, hA, hb, hp, _, c0, c1, c2, c3, c4, c5, c6⟩ := (HX.out.below HB.out).pt hlt
      obtain ⟨b', off', q, hA', hb', hq, _, d0, d1, d2, d3, d4, d5, d6⟩ := (HY.out.below HB.out).pt hlt
      have hpq : q = p := by rw [hp] at hq; injection hq with hq; exact hq.symm
      subst hpq hA hA'
      clear hp hq
      have hE := fun (W : World) => (eqAgg_run q.v q.f q.m q.op q.x q.y q.n q.v q.f q.m q.op q.x q.y q.n W).trans (by rw [ptEq_iff.2 rfl])
      go_wp2
      go_quiet (fail)
      go_wp2
      go_roundg gk
      case measure => omega
      case rel =>
        go_light
        exact ⟨k + 1, by omega, by go_num, Lib.hid (⟨HB.out.os, HB.out.tape, HB.out.output, HB.out.size, HB.out.block⟩)⟩
end Go.Proofs.Ytljgaepgblakhaa
