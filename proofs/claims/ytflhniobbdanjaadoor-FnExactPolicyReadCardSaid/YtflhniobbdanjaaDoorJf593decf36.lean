/- The reader of a line: a verdict, a test. Conditions: each contract's own. -/
import Derived.Test.YtflhniobbdanjaaDoorJ25b1a5eabd
import Derived.Test.YtflhniobbdanjaaDoorJ795a4ca0e7
import Derived.Test.YtflhniobbdanjaaDoorJ693f2044f2
namespace Go.Proofs.YtflhniobbdanjaaDoor
set_option linter.unusedSimpArgs false
open Go.RowKit
set_option linter.unusedVariables false
set_option linter.unnecessarySimpa false
set_option maxRecDepth 20000
def ksV : Nat → List Int
  | 0 => [1, 2, 3, 4]
  | 1 => [2, 3, 4]
  | 2 => [3, 4]
  | 3 => [4]
  | _ => []
theorem ksV_at (T : Int → List UInt8) (l : List UInt8) {k : Nat} (hk : k < 4) : rdOf T (ksV k) l = match skP (T ((k : Int) + 1)) l with | some r => some ((k : Int) + 1, r) | none => rdOf T (ksV (k + 1)) l := by
  rcases (show k = 0 ∨ k = 1 ∨ k = 2 ∨ k = 3 by omega) with rfl | rfl | rfl | rfl <;> rfl
set_option maxHeartbeats 800000 in
theorem verdictC_c (g : Nat) (l : List UInt8) (ln : Int) (w : World) (h : Blk w g 53 [.string (str l), .int .i64 ln]) :
    Calls Tryd.prog 46 #[.pointer (some ⟨g, 0, none⟩)] w (fun e w' => (∃ v r, rdVerdict l = some (v, r) ∧ e = .returned (.tuple #[.int .i64 v, .bool true]) ∧ Blk w' g 53 [.string (str r), .int .i64 ln] ∧ w.grownBy w' (some g)) ∨
      (rdVerdict l = none ∧ e = .returned (.tuple #[.int .i64 0, .bool false]) ∧ Blk w' g 53 [.string (str l), .int .i64 ln] ∧ w.grownBy w' (some g))) := by
  have H0 := Lib.hid h
  clear h
  have HV : Hid (rdVerdict l = rdOf wordT (ksV 0) l) := Lib.hid rfl
  go_enter Tryd.func46, Tryd.ntmps46
  go_wp2_with fail
  go_loopg [4] 4 (fun gk v wr => ∃ (k : Nat), gk + k = 4 ∧ v = .int .i64 ((k : Int) + 1) ∧ Hid (rdVerdict l = rdOf wordT (ksV k) l) ∧ Hid (Blk wr g 53 [.string (str l), .int .i64 ln]) ∧ Hid (w.grownBy wr (some g)))
  case atStart => exact ⟨0, rfl, rfl, HV, H0, Lib.hid (grg_refl _ _)⟩
  case round =>
    obtain ⟨k, hgk, rfl, HV, HB, HG⟩ := hrel
    by_cases hk : gk = 0
    · subst hk
      obtain rfl : k = 4 := by omega
      go_wp2
      go_returns
      exact .inr ⟨HV.out, rfl, HB.out, HG.out⟩
    · obtain ⟨G, rfl⟩ : ∃ j, gk = j + 1 := ⟨gk - 1, by omega⟩
      have e1 := ksV_at wordT l (show k < 4 by omega)
      have hk3 : (k : Int) + 1 ≤ 4 := by omega
      cases e2 : skP (wordT ((k : Int) + 1)) l with
      | some r =>
        rw [e2] at e1
        have E1 := Lib.hid e1
        clear e1
        (go_wp2_with fail); (go_at_call 58; refine (verdictName_c ((k : Int) + 1) _).mono ?_; rintro e w1 ⟨rfl, rfl⟩; skip)
        (go_wp2_with fail); (go_at_call 47; refine (skipC_yes g l _ r ln _ HB.out e2).mono ?_; rintro e w2 ⟨rfl, hb, hg⟩; skip)
        go_wp2
        go_returns
        exact .inl ⟨_, r, HV.out.trans E1.out, rfl, hb, HG.out.trans hg⟩
      | none =>
        rw [e2] at e1
        have E1 := Lib.hid e1
        clear e1
        (go_wp2_with fail); (go_at_call 58; refine (verdictName_c ((k : Int) + 1) _).mono ?_; rintro e w1 ⟨rfl, rfl⟩; skip)
        (go_wp2_with fail); (go_at_call 47; refine (skipC_no g l _ ln _ HB.out e2).mono ?_; rintro e w2 ⟨rfl, hb, hg⟩; skip)
        have HB2 := Lib.hid hb
        have HG2 := Lib.hid (HG.out.trans hg)
        clear hb hg
        go_wp2
        go_roundg G
        case measure => omega
        case rel =>
          go_light
          exact ⟨k + 1, by omega, by go_num, Lib.hid (HV.out.trans E1.out), HB2, HG2⟩
end Go.Proofs.YtflhniobbdanjaaDoor
