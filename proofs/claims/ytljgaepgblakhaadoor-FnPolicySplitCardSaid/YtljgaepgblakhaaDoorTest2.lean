/- TestHolds on both sides, and the functions of its law. Conditions: each contract's own. -/
import Derived.Test.YtljgaepgblakhaaDoorTest
namespace Go.Proofs.YtljgaepgblakhaaDoor
set_option linter.unusedSimpArgs false
open Go.RowKit
set_option linter.unusedVariables false
theorem specHolds_c (f m op v num : Int) (A : Option Addr) (n c : Nat) (xs : List Int) (w : World) (hr : Rd w w.heap.size 1 A n (ints xs)) (hn : n = 4) (h0 : 0 ≤ f) (h4 : f ≤ 4) (ho : op = 1 ∨ op = 2 ∨ op = 3) :
    Calls Tryd.prog 110 #[testV f m op v, .agg #[.int .i64 num, .slice A n c]] w (RetB (.bool (fitsB f m op v num xs)) w) := by
  unfold testV
  have HR := Lib.hid hr
  clear hr
  have HN := Lib.hid hn
  clear hn
  have HO := Lib.hid ho
  clear ho
  go_enter Tryd.func110, Tryd.ntmps110
  go_wp2
  go_region_held3 (fun w' => w'.cell? ⟨w.heap.size, 0, none⟩ = some (.int .i64 f) ∧ w'.cell? ⟨w.heap.size, 1, none⟩ = some (.int .i64 m) ∧ w'.cell? ⟨w.heap.size, 2, none⟩ = some (.int .i64 op) ∧ w'.cell? ⟨w.heap.size, 3, none⟩ = some (.int .i64 v) ∧ w'.cell? ⟨w.heap.size + 1, 0, none⟩ = some (.int .i64 num) ∧ w'.cell? ⟨w.heap.size + 1, 1, none⟩ = some (.slice A n c)) (simp [go_sem, *])
    (first
     | (go_at_call 139; refine (specField_c num f A n c xs _ (HR.out.upB (by go_grown) (by go_size)) HN.out h0 h4).mono ?_; rintro e w1 ⟨rfl, b1⟩; obtain ⟨gc1, gf1⟩ := below_get b1; (try simp only [heap_drew, World.size_alloc, World.size_setCell] at gc1 gf1); have s1 := below_via (w := w) (by go_grown) b1; have H1 := s1; have hs1 := b1.size; (try simp at hs1); have z1_0 : w.heap.size < w1.heap.size := (by omega); have z1_1 : w.heap.size + 1 < w1.heap.size := (by omega); clear b1))
  go_wp2
  all_goals go_returns
  all_goals (refine ⟨retv ?_, by go_grown⟩)
  all_goals go_light
  all_goals (have e := HO.out; clear HO; show Value.bool _ = Value.bool _; refine congrArg Value.bool ?_; simp_all [fitsB, holdsB])
theorem toTest_c (f m op v : Int) (w : World) : Calls Tryd.prog 176 #[testV f m op v] w (RetB (testV f m op v) w) := by
  unfold testV
  go_enter Tryd.func176, Tryd.ntmps176
  go_wp2
  go_returns
  exact ⟨rfl, by go_grown⟩
end Go.Proofs.YtljgaepgblakhaaDoor
