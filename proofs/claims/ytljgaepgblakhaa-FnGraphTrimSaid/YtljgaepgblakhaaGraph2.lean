/- GraphOk of the reference. Conditions: its own. -/
import Derived.Test.YtljgaepgblakhaaGraph
namespace Go.Proofs.Ytljgaepgblakhaa
set_option linter.unusedSimpArgs false
open Go.RowKit
set_option linter.unusedVariables false
set_option maxRecDepth 100000 in
set_option maxHeartbeats 2000000 in
theorem specGraphOk_c (A : Option Addr) (n c : Nat) (ps : List Pt) (w : World) (hr : Rd w w.heap.size 7 A n (pts ps)) (hn : n ≤ 9223372036854775807) :
    Calls Try.prog 9 #[.slice A n c] w (RetB (.bool (graphB ps)) w) := by
  have hl : ps.length = n := by have := hr.1; rw [pts_len] at this; omega
  have HR := Lib.hid hr
  have HL := Lib.hid hl
  clear hr hl
  go_enter Try.func9, Try.ntmps9
  go_wp2
  go_loopw [3] (fun i wr => ∃ k : Nat, k ≤ n ∧ i = .int .i64 k ∧ Hid ((ps.zipIdx.take k).all (fun q => ptB q.1 q.2) = true) ∧ Below w.heap.size w wr) (fun i _ => n - (intOf i).toNat)
  case atStart => exact ⟨0, by omega, rfl, by simp [Hid], Below.refl _ _⟩
  case round =>
    obtain ⟨k, hk, rfl, hall, hbel⟩ := hrel
    by_cases hlt : k < n
    · have hR := (HR.out.below hbel).pt hlt
      obtain ⟨b, off, p, rfl, hb, hp, hpl, c0, c1, c2, c3, c4, c5, c6⟩ := hR
      have HP : Hid (ps.zipIdx[k]? = some (p, k)) := by show _ = _; rw [List.getElem?_zipIdx, hp]; simp
      have HPL := Lib.hid hpl
      clear hp hpl
      obtain ⟨v, f, m, op, x, y, z⟩ := p
      have hbs := hbel.size
      by_cases h0 : op = 0
      · subst h0
        go_wp2_with (go_at_call 19; refine (l1In_c _ _ _ _).mono ?_; rintro e w' ⟨rfl, rfl⟩)
        all_goals (first
          | (go_returns
             refine ⟨retv ?_, by go_grown⟩
             go_light
             have := all_false (fun q : Pt × Nat => ptB q.1 q.2) ps.zipIdx k _ HP.out (by simp_all [ptB, leafB, verB] <;> (intros; omega))
             simp [graphB, this])
          | (go_roundw
             case rel =>
               go_light
               exact ⟨k + 1, by omega, by go_num, by show _ = true; rw [take_all _ _ _ _ HP.out]; have := hall.out; simp_all [ptB, leafB, verB] <;> (intros; omega), by go_grown⟩
             case measure => simp [intOf]; omega))
      · have h0' : (op == 0) = false := by simpa using h0
        go_wp2_with (go_at_call 19; refine (l1In_c _ _ _ _).mono ?_; rintro e w' ⟨rfl, rfl⟩)
        all_goals (first
          | (go_returns
             refine ⟨retv ?_, by go_grown⟩
             go_light
             have := all_false (fun q : Pt × Nat => ptB q.1 q.2) ps.zipIdx k _ HP.out (by simp_all [ptB, leafB, wordB] <;> (intros; omega))
             simp [graphB, this])
          | (go_roundw
             case rel =>
               go_light
               exact ⟨k + 1, by omega, by go_num, by show _ = true; rw [take_all _ _ _ _ HP.out]; have := hall.out; simp_all [ptB, leafB, wordB] <;> (intros; omega), by go_grown⟩
             case measure => simp [intOf]; omega))
    · go_wp2_with (go_at_call 19; refine (l1In_c _ _ _ _).mono ?_; rintro e w' ⟨rfl, rfl⟩)
      go_returns
      go_light
      have h2 := hall.out
      rw [List.take_of_length_le (by have := HL.out; simp; omega)] at h2
      have h3 := HL.out
      obtain rfl : k = n := by omega
      have h4 : (1 ≤ k ∧ k ≤ 120) ↔ ((1 : Int) ≤ (k : Int) ∧ (k : Int) ≤ 120) := by omega
      refine ⟨retv (congrArg Value.bool ?_), hbel⟩
      rw [graphB, h2, h3, Bool.and_true]
      by_cases a : 1 ≤ k <;> by_cases b : k ≤ 120 <;> simp [a, b] <;> omega
end Go.Proofs.Ytljgaepgblakhaa
