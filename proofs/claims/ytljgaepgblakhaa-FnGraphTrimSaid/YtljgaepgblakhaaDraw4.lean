/- Drawn tests of any make; the opening of a reader. Conditions: each contract's own. -/
import Derived.Test.YtljgaepgblakhaaDraw3
namespace Go.Proofs.Ytljgaepgblakhaa
set_option linter.unusedSimpArgs false
open Go.RowKit
set_option linter.unusedVariables false
theorem dr_new (w : World) (t : Nat) (A : Option Addr) (n c : Nat) (xs : List Int) (hr : Rd w w.heap.size 1 A n (u8s xs)) (hx : ∀ x ∈ xs, 0 ≤ x ∧ x ≤ 255) (hn : n ≤ 2000) :
    Dr (w.alloc (.cells #[.slice A n c, .int .i64 0] t)) w.heap.size t 0 A n c xs :=
  ⟨Blk.new w t [.slice A n c, .int .i64 0], hr.below ((Below.refl _ _).alloc (Nat.le_refl _) _), hx, hn, Int.le_refl _⟩
theorem l1Open_c (A : Option Addr) (n c : Nat) (xs : List Int) (w : World) (hr : Rd w w.heap.size 1 A n (u8s xs)) (hx : ∀ x ∈ xs, 0 ≤ x ∧ x ≤ 255) (hc : n ≤ c) (hc2 : c ≤ 9223372036854775807) :
    Calls Try.prog 12 #[.slice A n c] w fun e w' => ∃ n' c' xs', e = .returned (.pointer (some ⟨w.heap.size, 0, none⟩)) ∧ Dr w' w.heap.size 51 0 A n' c' xs' ∧ Below w.heap.size w w' ∧ w.heap.size < w'.heap.size := by
  by_cases h : n ≤ 2000
  · have HR := Lib.hid hr
    have HX := Lib.hid hx
    clear hr hx
    have h' : decide ((2000 : Int) < n) = false := by simp; omega
    go_enter Try.func12, Try.ntmps12
    go_wp2
    go_returns
    exact ⟨n, c, xs, rfl, dr_new w _ A n c xs HR.out HX.out h, by go_grown, by simp⟩
  · obtain ⟨b, off, rfl, hb, hcl⟩ := hr.2 (by omega)
    have hl := hr.len1
    have hr2 : Rd w w.heap.size 1 (some ⟨b, off, none⟩) 2000 (u8s (xs.take 2000)) := by
      refine ⟨by simp [u8s] at *; omega, fun _ => ⟨b, off, rfl, hb, fun j u hu => hcl j u ?_⟩⟩
      simp only [u8s, List.map_take, List.getElem?_take] at hu
      split at hu
      · exact hu
      · cases hu
    have hx2 : ∀ x ∈ xs.take 2000, 0 ≤ x ∧ x ≤ 255 := fun x h => hx x (List.mem_of_mem_take h)
    have HR := Lib.hid hr2
    have HX := Lib.hid hx2
    clear hr hx hr2 hx2 hcl hl
    have h' : decide ((2000 : Int) < n) = true := by simp; omega
    go_enter Try.func12, Try.ntmps12
    go_wp2
    go_returns
    exact ⟨2000, c, xs.take 2000, rfl, dr_new w _ _ 2000 c _ HR.out HX.out (by omega), by go_grown, by simp⟩
end Go.Proofs.Ytljgaepgblakhaa
