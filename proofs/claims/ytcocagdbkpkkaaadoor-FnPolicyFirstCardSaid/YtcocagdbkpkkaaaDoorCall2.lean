/- Contracts of the functions that copy and compare calls; the walk of FnExactCallOk. Conditions: each contract's own. -/
import Derived.Test.YtcocagdbkpkkaaaDoorCall
import Derived.Deep.RegionHeld3
namespace Go.Proofs.YtcocagdbkpkkaaaDoor
set_option linter.unusedSimpArgs false
open Go.RowKit
set_option linter.unusedVariables false
/-- The call returns a call of its own: the number, and new memory that reads as xs. -/
def RetCall (E : Nat) (num : Int) (n : Nat) (xs : List Int) (w : World) (e : Ending) (w' : World) : Prop :=
  ∃ A c, e = .returned (.agg #[.int .i64 num, .slice A n c]) ∧ w'.ownsRow w.heap.size E 1 (.slice A n c) n (ints xs) ∧ Below w.heap.size w w'
theorem toCall_c (num : Int) (A : Option Addr) (n c : Nat) (xs : List Int) (w : World) (hr : Rd w w.heap.size 1 A n (ints xs)) (hn : n ≤ 1048576) :
    Calls Tryd.prog 23 #[.agg #[.int .i64 num, .slice A n c]] w (RetCall 3 num n xs w) := by
  have HR := Lib.hid hr
  clear hr
  go_enter Tryd.func23, Tryd.ntmps23
  go_wp2_with (go_at_call 51; refine (toIntS_c A n c xs _ (HR.out.upB (by go_grown) (by go_size)) hn).mono ?_; rintro e w' ⟨A2, c2, rfl, hown, hbel⟩; obtain ⟨gc, gf⟩ := below_get hbel; have hb := below_via (w := w) (by go_grown) hbel)
  refine bodyPost_ret (v := .agg #[.int .i64 num, .slice A2 n c2]) (by simp [results, Tryd.results23, go_sem, gc]) rfl ?_
  go_light
  have h1 := ownsRow_setCell_below hown (a := ⟨w.heap.size + 1 + 1, 1, none⟩) (by simp) (.slice A2 n c2)
  have h2 := ownsRow_setCell_below h1 (a := ⟨w.heap.size + 1, 0, none⟩) (by simp) (.int .i64 num)
  have h3 := ownsRow_setCell_below h2 (a := ⟨w.heap.size + 1, 1, none⟩) (by simp) (.slice A2 n c2)
  exact ⟨_, _, rfl, own_base h3 (by simp; omega), by go_grown⟩
theorem eqCall_c (num1 num2 : Int) (A B : Option Addr) (n c m d : Nat) (xs ys : List Int) (w : World) (hx : Rd w w.heap.size 1 A n (ints xs)) (hy : Rd w w.heap.size 1 B m (ints ys)) (hn : n ≤ 9223372036854775807) (hm : m ≤ 9223372036854775807) :
    Calls Tryd.prog 25 #[.agg #[.int .i64 num1, .slice A n c], .agg #[.int .i64 num2, .slice B m d]] w (RetB (.bool (num1 == num2 && xs == ys)) w) := by
  have HX := Lib.hid hx
  have HY := Lib.hid hy
  clear hx hy
  go_enter Tryd.func25, Tryd.ntmps25
  go_wp2_with (go_at_call 54; refine (eqIntS_c A B n c m d xs ys _ (HX.out.upB (by go_grown) (by go_size)) (HY.out.upB (by go_grown) (by go_size)) hn hm).mono ?_; rintro e w' ⟨rfl, hbel⟩; have hb := below_via (w := w) (by go_grown) hbel)
  all_goals go_returns
  all_goals refine ⟨retv ?_, by go_grown⟩
  all_goals go_light
  all_goals simp_all
