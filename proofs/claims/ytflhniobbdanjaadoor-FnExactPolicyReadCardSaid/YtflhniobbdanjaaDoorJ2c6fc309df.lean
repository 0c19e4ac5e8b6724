/- The reader of a line: the last one. Conditions: the contract's own. -/
import Derived.Test.YtflhniobbdanjaaDoorJ1c2259b801
namespace Go.Proofs.YtflhniobbdanjaaDoor
set_option linter.unusedSimpArgs false
open Go.RowKit
set_option linter.unusedVariables false
set_option linter.unnecessarySimpa false
set_option maxRecDepth 20000
set_option maxHeartbeats 1600000 in
theorem otherC_c (g : Nat) (l : List UInt8) (ln : Int) (w : World) (h : Blk w g 53 [.string (str l), .int .i64 ln]) :
    Calls Tryd.prog 25 #[.pointer (some ⟨g, 0, none⟩)] w (fun e w' => (∃ v, rdElse l = some v ∧ e = .returned (.int .i64 v) ∧ w.grownBy w' (some g)) ∨
      (rdElse l = none ∧ e = .panicked (lineF 45 ln) ∧ w.grownBy w' (some g))) := by
  have H0 := Lib.hid h
  clear h
  go_enter Tryd.func25, Tryd.ntmps25
  cases e1 : skP [101, 108, 115, 101, 32] l with
  | none =>
    (go_wp2_with fail); (go_at_call 47; refine (skipC_no g l [101, 108, 115, 101, 32] ln _ H0.out e1).mono ?_; rintro e w1 ⟨rfl, hb, hg⟩; skip)
    (go_wp2_with fail); (go_at_call 23; refine (need_no g _ ln _ hb).mono ?_; rintro e w2 ⟨rfl, rfl⟩; skip)
    exact ⟨rfl, .inr ⟨by unfold rdElse; simp only [e1], rfl, hg⟩⟩
  | some l1 =>
    (go_wp2_with fail); (go_at_call 47; refine (skipC_yes g l [101, 108, 115, 101, 32] l1 ln _ H0.out e1).mono ?_; rintro e w1 ⟨rfl, hb, hg⟩; skip)
    have B1 := Lib.hid hb
    have G1 := Lib.hid hg
    clear hb hg
    (go_wp2_with fail); (go_at_call 23; refine (need_yes g _ ln _ B1.out).mono ?_; rintro e w2 ⟨rfl, rfl⟩; skip)
    cases e2 : rdVerdict l1 with
    | none =>
      (go_wp2_with fail); (go_at_call 46; refine (verdictC_no g l1 ln _ B1.out e2).mono ?_; rintro e w3 ⟨rfl, hb, hg⟩; skip)
      (go_wp2_with fail); (go_at_call 23; refine (need_no g _ ln _ hb).mono ?_; rintro e w4 ⟨rfl, rfl⟩; skip)
      exact ⟨rfl, .inr ⟨by unfold rdElse; simp only [e1, e2], rfl, gr_via G1.out hg⟩⟩
    | some q =>
      obtain ⟨v, l2⟩ := q
      (go_wp2_with fail); (go_at_call 46; refine (verdictC_yes g l1 l2 v ln _ B1.out e2).mono ?_; rintro e w3 ⟨rfl, hb, hg⟩; skip)
      have B3 := Lib.hid hb
      have G3 := Lib.hid (gr_via G1.out hg)
      clear hb hg
      have HDN := Lib.hid (fun W h => done_c g l2 ln W h)
      by_cases hd : l2 = []
      · have hdd : decide (l2 = []) = true := by simpa using hd
        have HE : Hid (rdElse l = some v) := Lib.hid (by unfold rdElse; simp only [e1, e2]; rw [if_pos hd])
        rw [hdd] at HDN
        clear hd hdd
        (go_wp2_with fail); (go_at_call 26; refine (HDN.out _ B3.out).mono ?_; rintro e w4 ⟨rfl, rfl⟩; skip)
        (go_wp2_with fail); (go_at_call 23; refine (need_yes g _ ln _ B3.out).mono ?_; rintro e w5 ⟨rfl, rfl⟩; skip)
        go_wp2
        go_returns
        exact .inl ⟨v, HE.out, rfl, G3.out⟩
      · have hdd : decide (l2 = []) = false := by simpa using hd
        have HE : Hid (rdElse l = none) := Lib.hid (by unfold rdElse; simp only [e1, e2]; rw [if_neg hd])
        rw [hdd] at HDN
        clear hd hdd
        (go_wp2_with fail); (go_at_call 26; refine (HDN.out _ B3.out).mono ?_; rintro e w4 ⟨rfl, rfl⟩; skip)
        (go_wp2_with fail); (go_at_call 23; refine (need_no g _ ln _ B3.out).mono ?_; rintro e w5 ⟨rfl, rfl⟩; skip)
        exact ⟨rfl, .inr ⟨HE.out, rfl, G3.out⟩⟩
theorem otherC_yes (g : Nat) (l : List UInt8) (v ln : Int) (w : World) (h : Blk w g 53 [.string (str l), .int .i64 ln]) (e : rdElse l = some v) :
    Calls Tryd.prog 25 #[.pointer (some ⟨g, 0, none⟩)] w (fun e w' => e = .returned (.int .i64 v) ∧ w.grownBy w' (some g)) :=
  (otherC_c g l ln w h).mono (fun e' w' h' => by
    rcases h' with ⟨t', h1, h2⟩ | ⟨h1, _⟩
    · rw [e] at h1
      injection h1 with h1
      subst h1
      exact h2
    · rw [e] at h1; cases h1)
theorem otherC_no (g : Nat) (l : List UInt8) (ln : Int) (w : World) (h : Blk w g 53 [.string (str l), .int .i64 ln]) (e : rdElse l = none) :
    Calls Tryd.prog 25 #[.pointer (some ⟨g, 0, none⟩)] w (fun e w' => e = .panicked (lineF 45 ln) ∧ w.grownBy w' (some g)) :=
  (otherC_c g l ln w h).mono (fun e' w' h' => by
    rcases h' with ⟨t', h1, _⟩ | ⟨_, h2⟩
    · rw [e] at h1; cases h1
    · exact h2)
theorem ruleC_no (g : Nat) (l : List UInt8) (ln : Int) (hl : l.length ≤ 1000000) (w : World) (h : Blk w g 53 [.string (str l), .int .i64 ln]) (e : rdRule l = none) :
    Calls Tryd.prog 24 #[.pointer (some ⟨g, 0, none⟩)] w (fun e w' => e = .panicked (lineF 45 ln) ∧ w.grownBy w' (some g)) :=
  (ruleC_c g l ln hl w h).mono (fun e' w' h' => by
    rcases h' with ⟨t', _, _, h1, _⟩ | ⟨_, h2⟩
    · rw [e] at h1; cases h1
    · exact h2)
theorem ruleC_yes (g : Nat) (l : List UInt8) (r : Rl) (ln : Int) (hl : l.length ≤ 1000000) (w : World) (h : Blk w g 53 [.string (str l), .int .i64 ln]) (e : rdRule l = some r) :
    Calls Tryd.prog 24 #[.pointer (some ⟨g, 0, none⟩)] w (fun e w' => ∃ (TA : Option Addr) (c : Nat), e = .returned (.agg #[.int .i64 r.v, .int .i64 r.lo, .int .i64 r.hi, .slice TA r.ts.length c]) ∧ w'.ownsRow w.heap.size 67 4 (.slice TA r.ts.length c) r.ts.length (tsts r.ts) ∧ w.grownBy w' (some g)) :=
  (ruleC_c g l ln hl w h).mono (fun e' w' h' => by
    rcases h' with ⟨r', TA, c, h1, h2⟩ | ⟨h1, _⟩
    · rw [e] at h1
      injection h1 with h1
      subst h1
      exact ⟨TA, c, h2⟩
    · rw [e] at h1; cases h1)
end Go.Proofs.YtflhniobbdanjaaDoor
