/- PolicyOnly: both sides. Conditions: each contract's own. -/
import Derived.Test.YtljgaepgblakhaaDoorJFnPolicyOnly41
import Derived.Test.YtljgaepgblakhaaDoorCall
namespace Go.Proofs.YtljgaepgblakhaaDoor
set_option linter.unusedSimpArgs false
open Go.RowKit
set_option linter.unusedVariables false
set_option linter.unnecessarySimpa false
set_option maxRecDepth 20000
theorem specPolicyOnly_n1 (A : Option Addr) (n c : Nat) (rs : List Rl) (e low high v : Int) (w : World) (hn : n ≤ 9223372036854775807) (hr : RdR w w.heap.size A n rs) (h1 : polOk ⟨rs, e⟩ = false) :
    Calls Tryd.prog 21 #[.agg #[.slice A n c, .int .i64 e], .int .i64 low, .int .i64 high, .int .i64 v] w (RetPolB 35 83 ⟨[], 0⟩ false w) := by
  have HR := Lib.hid hr
  have hO1 := fun W h => specPolicyOk_c A n c rs e W h hn
  rw [h1] at hO1
  have HO1 := Lib.hid hO1
  clear hr hO1 h1
  go_enter Tryd.func21, Tryd.ntmps21
  go_wp2_with (first
    | (go_at_call 18; refine (HO1.out _ (HR.out.upB (by go_grown) (by go_size))).mono ?_; rintro e w1 ⟨rfl, b1⟩; obtain ⟨gc1, gf1⟩ := below_get b1; (try simp only [heap_drew, World.size_alloc, World.size_setCell] at gc1 gf1); have s1 := below_via (w := w) (by go_grown) b1; have H1 := s1; have hs1 := b1.size; (try simp at hs1); have z1_0 : w.heap.size < w1.heap.size := (by omega); have z1_1 : w.heap.size + 1 < w1.heap.size := (by omega); clear b1)
    | (go_at_call 70; refine (l1In_c _ _ _ _).mono ?_; rintro e w' ⟨rfl, rfl⟩))
  refine bodyPost_ret (v := .tuple #[.agg #[.slice none 0 0, .int .i64 0], .bool false]) (by simp [results, Tryd.results21, go_sem, gc1, z1_1]) rfl ?_
  go_light
  exact retPolB_no rfl (by go_grown)
theorem specPolicyOnly_n2 (A : Option Addr) (n c : Nat) (rs : List Rl) (e low high v : Int) (w : World) (hn : n ≤ 9223372036854775807) (hr : RdR w w.heap.size A n rs) (h1 : polOk ⟨rs, e⟩ = true) (h2 : wordB low = false) :
    Calls Tryd.prog 21 #[.agg #[.slice A n c, .int .i64 e], .int .i64 low, .int .i64 high, .int .i64 v] w (RetPolB 35 83 ⟨[], 0⟩ false w) := by
  have HR := Lib.hid hr
  have hO1 := fun W h => specPolicyOk_c A n c rs e W h hn
  rw [h1] at hO1
  have HO1 := Lib.hid hO1
  have va : decide (0 ≤ low ∧ low ≤ 4294967295) = false := h2
  clear hr hO1 h1
  go_enter Tryd.func21, Tryd.ntmps21
  go_wp2_with (first
    | (go_at_call 18; refine (HO1.out _ (HR.out.upB (by go_grown) (by go_size))).mono ?_; rintro e w1 ⟨rfl, b1⟩; obtain ⟨gc1, gf1⟩ := below_get b1; (try simp only [heap_drew, World.size_alloc, World.size_setCell] at gc1 gf1); have s1 := below_via (w := w) (by go_grown) b1; have H1 := s1; have hs1 := b1.size; (try simp at hs1); have z1_0 : w.heap.size < w1.heap.size := (by omega); have z1_1 : w.heap.size + 1 < w1.heap.size := (by omega); clear b1)
    | (go_at_call 70; refine (l1In_c _ _ _ _).mono ?_; rintro e w' ⟨rfl, rfl⟩))
  refine bodyPost_ret (v := .tuple #[.agg #[.slice none 0 0, .int .i64 0], .bool false]) (by simp [results, Tryd.results21, go_sem, gc1, z1_1]) rfl ?_
  go_light
  exact retPolB_no rfl (by go_grown)
theorem specPolicyOnly_n3 (A : Option Addr) (n c : Nat) (rs : List Rl) (e low high v : Int) (w : World) (hn : n ≤ 9223372036854775807) (hr : RdR w w.heap.size A n rs) (h1 : polOk ⟨rs, e⟩ = true) (h2 : wordB low = true) (h3 : ¬ (low ≤ high ∧ high ≤ 4294967295)) :
    Calls Tryd.prog 21 #[.agg #[.slice A n c, .int .i64 e], .int .i64 low, .int .i64 high, .int .i64 v] w (RetPolB 35 83 ⟨[], 0⟩ false w) := by
  have HR := Lib.hid hr
  have hO1 := fun W h => specPolicyOk_c A n c rs e W h hn
  rw [h1] at hO1
  have HO1 := Lib.hid hO1
  have va : decide (0 ≤ low ∧ low ≤ 4294967295) = true := h2
  have vb : decide (low ≤ high ∧ high ≤ 4294967295) = false := by simpa using h3
  clear h3
  clear hr hO1 h1
  go_enter Tryd.func21, Tryd.ntmps21
  go_wp2_with (first
    | (go_at_call 18; refine (HO1.out _ (HR.out.upB (by go_grown) (by go_size))).mono ?_; rintro e w1 ⟨rfl, b1⟩; obtain ⟨gc1, gf1⟩ := below_get b1; (try simp only [heap_drew, World.size_alloc, World.size_setCell] at gc1 gf1); have s1 := below_via (w := w) (by go_grown) b1; have H1 := s1; have hs1 := b1.size; (try simp at hs1); have z1_0 : w.heap.size < w1.heap.size := (by omega); have z1_1 : w.heap.size + 1 < w1.heap.size := (by omega); clear b1)
    | (go_at_call 70; refine (l1In_c _ _ _ _).mono ?_; rintro e w' ⟨rfl, rfl⟩))
  refine bodyPost_ret (v := .tuple #[.agg #[.slice none 0 0, .int .i64 0], .bool false]) (by simp [results, Tryd.results21, go_sem, gc1, z1_1]) rfl ?_
  go_light
  exact retPolB_no rfl (by go_grown)
theorem specPolicyOnly_n4 (A : Option Addr) (n c : Nat) (rs : List Rl) (e low high v : Int) (w : World) (hn : n ≤ 9223372036854775807) (hr : RdR w w.heap.size A n rs) (h1 : polOk ⟨rs, e⟩ = true) (h2 : wordB low = true) (h3 : low ≤ high ∧ high ≤ 4294967295) (h4 : verB v = false) :
    Calls Tryd.prog 21 #[.agg #[.slice A n c, .int .i64 e], .int .i64 low, .int .i64 high, .int .i64 v] w (RetPolB 35 83 ⟨[], 0⟩ false w) := by
  have HR := Lib.hid hr
  have hO1 := fun W h => specPolicyOk_c A n c rs e W h hn
  rw [h1] at hO1
  have HO1 := Lib.hid hO1
  have va : decide (0 ≤ low ∧ low ≤ 4294967295) = true := h2
  have vb : decide (low ≤ high ∧ high ≤ 4294967295) = true := by simpa using h3
  have vc : decide (1 ≤ v ∧ v ≤ 4) = false := h4
  clear h3
  clear hr hO1 h1
  go_enter Tryd.func21, Tryd.ntmps21
  go_wp2_with (first
    | (go_at_call 18; refine (HO1.out _ (HR.out.upB (by go_grown) (by go_size))).mono ?_; rintro e w1 ⟨rfl, b1⟩; obtain ⟨gc1, gf1⟩ := below_get b1; (try simp only [heap_drew, World.size_alloc, World.size_setCell] at gc1 gf1); have s1 := below_via (w := w) (by go_grown) b1; have H1 := s1; have hs1 := b1.size; (try simp at hs1); have z1_0 : w.heap.size < w1.heap.size := (by omega); have z1_1 : w.heap.size + 1 < w1.heap.size := (by omega); clear b1)
    | (go_at_call 70; refine (l1In_c _ _ _ _).mono ?_; rintro e w' ⟨rfl, rfl⟩))
  refine bodyPost_ret (v := .tuple #[.agg #[.slice none 0 0, .int .i64 0], .bool false]) (by simp [results, Tryd.results21, go_sem, gc1, z1_1]) rfl ?_
  go_light
  exact retPolB_no rfl (by go_grown)
theorem specPolicyOnly_c (A : Option Addr) (n c : Nat) (rs : List Rl) (e low high v : Int) (w : World) (hn : n ≤ 9223372036854775807) (hr : RdR w w.heap.size A n rs) :
    Calls Tryd.prog 21 #[.agg #[.slice A n c, .int .i64 e], .int .i64 low, .int .i64 high, .int .i64 v] w (RetPolB 35 83 (onlyP ⟨rs, e⟩ low high v) (onlyB ⟨rs, e⟩ low high v) w) := by
  by_cases h : onlyA ⟨rs, e⟩ low high v = true
  · have h' := h
    simp only [onlyA, Bool.and_eq_true, decide_eq_true_eq] at h'
    have := specPolicyOnly_yes A n c rs e low high v w hn hr h'.1.1.1.1 h'.1.1.1.2 h'.1.1.2 h'.1.2 h'.2 _ rfl
    rw [onlyP, onlyB, if_pos h, h, Bool.true_and]
    exact this
  · have hf : onlyA ⟨rs, e⟩ low high v = false := by simpa using h
    rw [onlyP, onlyB, if_neg h, hf, Bool.false_and]
    by_cases h1 : polOk ⟨rs, e⟩ = true
    · by_cases h2 : wordB low = true
      · by_cases h3 : low ≤ high ∧ high ≤ 4294967295
        · refine specPolicyOnly_n4 A n c rs e low high v w hn hr h1 h2 h3 ?_
          have h5 : wordB high = true := by have := wordB_in h2; simp [wordB]; omega
          simpa [onlyA, h1, h2, h3, h5] using hf
        · exact specPolicyOnly_n3 A n c rs e low high v w hn hr h1 h2 h3
      · exact specPolicyOnly_n2 A n c rs e low high v w hn hr h1 (by simpa using h2)
    · exact specPolicyOnly_n1 A n c rs e low high v w hn hr (by simpa using h1)
end Go.Proofs.YtljgaepgblakhaaDoor
