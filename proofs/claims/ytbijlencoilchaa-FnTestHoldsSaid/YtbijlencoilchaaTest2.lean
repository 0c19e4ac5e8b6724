/- TestHolds on both sides, and the functions of its law. Conditions: each contract's own. -/
import Derived.Test.YtbijlencoilchaaTest
namespace Go.Proofs.Ytbijlencoilchaa
open Go.RowKit
set_option linter.unusedVariables false
theorem specHolds_c (f m op v num : Int) (A : Option Addr) (n c : Nat) (xs : List Int) (w : World) (hr : Rd w w.heap.size 1 A n (ints xs)) (hn : n = 4) (h0 : 0 ≤ f) (h4 : f ≤ 4) (ho : op = 1 ∨ op = 2 ∨ op = 3) :
    Calls Try.prog 51 #[testV f m op v, .agg #[.int .i64 num, .slice A n c]] w (RetB (.bool (fitsB f m op v num xs)) w) := by
  unfold testV
  have HR := Lib.hid hr
  clear hr
  have HN := Lib.hid hn
  clear hn
  have HO := Lib.hid ho
  clear ho
  go_enter Try.func51, Try.ntmps51
  go_wp2
  go_region_held3 (fun w' => w'.cell? ⟨w.heap.size, 0, none⟩ = some (.int .i64 f) ∧ w'.cell? ⟨w.heap.size, 1, none⟩ = some (.int .i64 m) ∧ w'.cell? ⟨w.heap.size, 2, none⟩ = some (.int .i64 op) ∧ w'.cell? ⟨w.heap.size, 3, none⟩ = some (.int .i64 v) ∧ w'.cell? ⟨w.heap.size + 1, 0, none⟩ = some (.int .i64 num) ∧ w'.cell? ⟨w.heap.size + 1, 1, none⟩ = some (.slice A n c)) (simp [go_sem, *])
    (first
     | (go_at_call 58; refine (specField_c num f A n c xs _ (HR.out.upB (by go_grown) (by go_size)) HN.out h0 h4).mono ?_; rintro e w1 ⟨rfl, b1⟩; obtain ⟨gc1, gf1⟩ := below_get b1; (try simp only [heap_drew, World.size_alloc, World.size_setCell] at gc1 gf1); have s1 := below_via (w := w) (by go_grown) b1; have H1 := s1; have hs1 := b1.size; (try simp at hs1); have z1_0 : w.heap.size < w1.heap.size := (by omega); have z1_1 : w.heap.size + 1 < w1.heap.size := (by omega); clear b1))
  go_wp2
  all_goals go_returns
  all_goals (refine ⟨retv ?_, by go_grown⟩)
  all_goals go_light
  all_goals (have e := HO.out; clear HO; show Value.bool _ = Value.bool _; refine congrArg Value.bool ?_; simp_all [fitsB, holdsB])
theorem testHolds_c (f m op v num : Int) (A : Option Addr) (n c : Nat) (xs : List Int) (w : World) (hr : Rd w w.heap.size 1 A n (ints xs)) (hn : n ≤ 9223372036854775807) :
    Calls Try.prog 27 #[testV f m op v, .agg #[.int .i64 num, .slice A n c]] w (RetB (.bool (testHoldsB f m op v num xs)) w) := by
  have hl : xs.length = n := by simpa [ints] using hr.1
  have HR := Lib.hid hr
  have HL := Lib.hid hl
  clear hr hl
  by_cases ht : testB f m op v = true
  · obtain ⟨h1, h2, h3, h4, h5, h6, h7⟩ := testB_and ht
    clear h7
    by_cases hc : callB num xs = true
    · have HN : Hid (n = 4) := by have := HL.out; have := callB_len hc; show _ = _; omega
      unfold testV
      go_enter Try.func27, Try.ntmps27
      go_wp2_with (first
        | (go_at_call 52; refine (testOk_c f m op v _).mono ?_; rintro e w1 ⟨rfl, b1⟩; obtain ⟨gc1, gf1⟩ := below_get b1; (try simp only [heap_drew, World.size_alloc, World.size_setCell] at gc1 gf1); have s1 := below_via (w := w) (by go_grown) b1; have H1 := s1; have hs1 := b1.size; (try simp at hs1); have z1_0 : w.heap.size < w1.heap.size := (by omega); have z1_1 : w.heap.size + 1 < w1.heap.size := (by omega); clear b1)
        | (go_at_call 18; refine (callOk_c num A n c xs _ ((HR.out.up s1).upB (by go_grown) (by go_size)) hn).mono ?_; rintro e w2 ⟨rfl, b2⟩; obtain ⟨gc2, gf2⟩ := below_get b2; (try simp only [heap_drew, World.size_alloc, World.size_setCell] at gc2 gf2); have s2 := below_via (w := w1) (by go_grown) b2; have H2 := below_via H1 s2; have hs2 := b2.size; (try simp at hs2); have z2_0 : w.heap.size < w2.heap.size := (by omega); have z2_1 : w.heap.size + 1 < w2.heap.size := (by omega); clear b2)
        | (go_at_call 53; refine (testFits_c f m op v num A n c xs _ (((HR.out.up s1).up s2).upB (by go_grown) (by go_size)) HN.out (by omega) (by omega)).mono ?_; rintro e w3 ⟨rfl, b3⟩; obtain ⟨gc3, gf3⟩ := below_get b3; (try simp only [heap_drew, World.size_alloc, World.size_setCell] at gc3 gf3); have s3 := below_via (w := w2) (by go_grown) b3; have H3 := below_via H2 s3; have hs3 := b3.size; (try simp at hs3); clear b3))
      go_returns
      exact ⟨by simp [testHoldsB, ht, hc], by go_grown⟩
    · have hc : callB num xs = false := by simpa using hc
      unfold testV
      go_enter Try.func27, Try.ntmps27
      go_wp2_with (first
        | (go_at_call 52; refine (testOk_c f m op v _).mono ?_; rintro e w1 ⟨rfl, b1⟩; obtain ⟨gc1, gf1⟩ := below_get b1; (try simp only [heap_drew, World.size_alloc, World.size_setCell] at gc1 gf1); have s1 := below_via (w := w) (by go_grown) b1; have H1 := s1; have hs1 := b1.size; (try simp at hs1); have z1_0 : w.heap.size < w1.heap.size := (by omega); have z1_1 : w.heap.size + 1 < w1.heap.size := (by omega); clear b1)
        | (go_at_call 18; refine (callOk_c num A n c xs _ ((HR.out.up s1).upB (by go_grown) (by go_size)) hn).mono ?_; rintro e w2 ⟨rfl, b2⟩; obtain ⟨gc2, gf2⟩ := below_get b2; (try simp only [heap_drew, World.size_alloc, World.size_setCell] at gc2 gf2); have s2 := below_via (w := w1) (by go_grown) b2; have H2 := below_via H1 s2; have hs2 := b2.size; (try simp at hs2); have z2_0 : w.heap.size < w2.heap.size := (by omega); have z2_1 : w.heap.size + 1 < w2.heap.size := (by omega); clear b2))
      go_returns
      exact ⟨by simp [testHoldsB, ht, hc], by go_grown⟩
  · have ht : testB f m op v = false := by simpa using ht
    unfold testV
    go_enter Try.func27, Try.ntmps27
    go_wp2_with (go_at_call 52; refine (testOk_c f m op v _).mono ?_; rintro e w1 ⟨rfl, b1⟩; obtain ⟨gc1, gf1⟩ := below_get b1; (try simp only [heap_drew, World.size_alloc, World.size_setCell] at gc1 gf1); have s1 := below_via (w := w) (by go_grown) b1; have H1 := s1; have hs1 := b1.size; (try simp at hs1); have z1_0 : w.heap.size < w1.heap.size := (by omega); have z1_1 : w.heap.size + 1 < w1.heap.size := (by omega); clear b1)
    go_returns
    exact ⟨by simp [testHoldsB, ht], by go_grown⟩
theorem specTestHolds_c (f m op v num : Int) (A : Option Addr) (n c : Nat) (xs : List Int) (w : World) (hr : Rd w w.heap.size 1 A n (ints xs)) (hn : n ≤ 9223372036854775807) :
    Calls Try.prog 25 #[testV f m op v, .agg #[.int .i64 num, .slice A n c]] w (RetB (.bool (testHoldsB f m op v num xs)) w) := by
  have hl : xs.length = n := by simpa [ints] using hr.1
  have HR := Lib.hid hr
  have HL := Lib.hid hl
  clear hr hl
  by_cases ht : testB f m op v = true
  · obtain ⟨h1, h2, h3, h4, h5, h6, h7⟩ := testB_and ht
    have HO := Lib.hid h7
    clear h7
    by_cases hc : callB num xs = true
    · have HN : Hid (n = 4) := by have := HL.out; have := callB_len hc; show _ = _; omega
      unfold testV
      go_enter Try.func25, Try.ntmps25
      go_wp2_with (first
        | (go_at_call 50; refine (specTestOk_c f m op v _).mono ?_; rintro e w1 ⟨rfl, b1⟩; obtain ⟨gc1, gf1⟩ := below_get b1; (try simp only [heap_drew, World.size_alloc, World.size_setCell] at gc1 gf1); have s1 := below_via (w := w) (by go_grown) b1; have H1 := s1; have hs1 := b1.size; (try simp at hs1); have z1_0 : w.heap.size < w1.heap.size := (by omega); have z1_1 : w.heap.size + 1 < w1.heap.size := (by omega); clear b1)
        | (go_at_call 16; refine (specCallOk_c num A n c xs _ ((HR.out.up s1).upB (by go_grown) (by go_size)) hn).mono ?_; rintro e w2 ⟨rfl, b2⟩; obtain ⟨gc2, gf2⟩ := below_get b2; (try simp only [heap_drew, World.size_alloc, World.size_setCell] at gc2 gf2); have s2 := below_via (w := w1) (by go_grown) b2; have H2 := below_via H1 s2; have hs2 := b2.size; (try simp at hs2); have z2_0 : w.heap.size < w2.heap.size := (by omega); have z2_1 : w.heap.size + 1 < w2.heap.size := (by omega); clear b2)
        | (go_at_call 51; refine (specHolds_c f m op v num A n c xs _ (((HR.out.up s1).up s2).upB (by go_grown) (by go_size)) HN.out (by omega) (by omega) HO.out).mono ?_; rintro e w3 ⟨rfl, b3⟩; obtain ⟨gc3, gf3⟩ := below_get b3; (try simp only [heap_drew, World.size_alloc, World.size_setCell] at gc3 gf3); have s3 := below_via (w := w2) (by go_grown) b3; have H3 := below_via H2 s3; have hs3 := b3.size; (try simp at hs3); clear b3))
      go_returns
      exact ⟨by simp [testHoldsB, ht, hc], by go_grown⟩
    · have hc : callB num xs = false := by simpa using hc
      unfold testV
      go_enter Try.func25, Try.ntmps25
      go_wp2_with (first
        | (go_at_call 50; refine (specTestOk_c f m op v _).mono ?_; rintro e w1 ⟨rfl, b1⟩; obtain ⟨gc1, gf1⟩ := below_get b1; (try simp only [heap_drew, World.size_alloc, World.size_setCell] at gc1 gf1); have s1 := below_via (w := w) (by go_grown) b1; have H1 := s1; have hs1 := b1.size; (try simp at hs1); have z1_0 : w.heap.size < w1.heap.size := (by omega); have z1_1 : w.heap.size + 1 < w1.heap.size := (by omega); clear b1)
        | (go_at_call 16; refine (specCallOk_c num A n c xs _ ((HR.out.up s1).upB (by go_grown) (by go_size)) hn).mono ?_; rintro e w2 ⟨rfl, b2⟩; obtain ⟨gc2, gf2⟩ := below_get b2; (try simp only [heap_drew, World.size_alloc, World.size_setCell] at gc2 gf2); have s2 := below_via (w := w1) (by go_grown) b2; have H2 := below_via H1 s2; have hs2 := b2.size; (try simp at hs2); have z2_0 : w.heap.size < w2.heap.size := (by omega); have z2_1 : w.heap.size + 1 < w2.heap.size := (by omega); clear b2))
      go_returns
      exact ⟨by simp [testHoldsB, ht, hc], by go_grown⟩
  · have ht : testB f m op v = false := by simpa using ht
    unfold testV
    go_enter Try.func25, Try.ntmps25
    go_wp2_with (go_at_call 50; refine (specTestOk_c f m op v _).mono ?_; rintro e w1 ⟨rfl, b1⟩; obtain ⟨gc1, gf1⟩ := below_get b1; (try simp only [heap_drew, World.size_alloc, World.size_setCell] at gc1 gf1); have s1 := below_via (w := w) (by go_grown) b1; have H1 := s1; have hs1 := b1.size; (try simp at hs1); have z1_0 : w.heap.size < w1.heap.size := (by omega); have z1_1 : w.heap.size + 1 < w1.heap.size := (by omega); clear b1)
    go_returns
    exact ⟨by simp [testHoldsB, ht], by go_grown⟩
theorem toTest_c (f m op v : Int) (w : World) : Calls Try.prog 26 #[testV f m op v] w (RetB (testV f m op v) w) := by
  unfold testV
  go_enter Try.func26, Try.ntmps26
  go_wp2
  go_returns
  exact ⟨rfl, by go_grown⟩
end Go.Proofs.Ytbijlencoilchaa
