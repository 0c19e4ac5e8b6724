/- Parts of laws in one text. Conditions: each lemma's own. -/
import Derived.Test.YtmfienlceobfeaaDoorRows
import Derived.Test.YtmfienlceobfeaaDoorBase
namespace Go.Proofs.YtmfienlceobfeaaDoor
set_option linter.unusedSimpArgs false
open Go.RowKit
set_option linter.unusedVariables false
theorem info_int : (Tryd.prog.info? 3).map (fun i => (i.zero, i.size, i.bytes)) = some (some (.int .i64 0), 1, 8) := by kernel_rfl
theorem wordOk_c (n : Int) (w : World) : Calls Tryd.prog 22 #[.int .i64 n] w (RetW (.bool (wordB n)) w) := by
  go_enter Tryd.func22, Tryd.ntmps22
  go_wp2
  all_goals go_returns
  all_goals (refine ⟨?_, rfl⟩)
  all_goals go_light
  all_goals simp [wordB]; omega
theorem l1In_word (n : Int) (w : World) : Calls Tryd.prog 18 #[.int .i64 n, .int .i64 0, .int .i64 4294967295] w (RetW (.bool (wordB n)) w) := by
  go_enter Tryd.func18, Tryd.ntmps18
  go_wp2
  all_goals go_returns
  all_goals (refine ⟨?_, rfl⟩)
  all_goals go_light
  all_goals simp [wordB]; omega
theorem l1In_c (n a b : Int) (w : World) : Calls Tryd.prog 18 #[.int .i64 n, .int .i64 a, .int .i64 b] w (RetW (.bool (decide (a ≤ n ∧ n ≤ b))) w) := by
  go_enter Tryd.func18, Tryd.ntmps18
  go_wp2
  all_goals go_returns
  all_goals (refine ⟨?_, rfl⟩)
  all_goals go_light
  all_goals simp; omega
theorem callOk_c (num : Int) (A : Option Addr) (n c : Nat) (xs : List Int) (w : World) (hr : Rd w w.heap.size 1 A n (ints xs)) (hn : n ≤ 9223372036854775807) :
    Calls Tryd.prog 10 #[.agg #[.int .i64 num, .slice A n c]] w (RetB (.bool (callB num xs)) w) := by
  have hl : n = xs.length := by simpa [ints] using hr.1.symm
  have HR := Lib.hid hr
  have HL := Lib.hid hl
  clear hr hl
  go_enter Tryd.func10, Tryd.ntmps10
  go_wp2_with (go_at_call 22; refine (wordOk_c _ _).mono ?_; rintro e w' ⟨rfl, rfl⟩)
  · go_returns
    refine ⟨retv ?_, by go_grown⟩
    go_light
    have := HL.out
    simp_all [callB]
    omega
  · rename (_ = false) => h4; have H4 := Lib.hid h4; clear h4
    rename (_ = true) => h4; have HW := Lib.hid h4; clear h4
    go_loop [18] (fun i => ∃ k : Nat, k ≤ n ∧ i = .int .i64 k ∧ Hid ((xs.take k).all wordB = true)) (fun i => n - (intOf i).toNat)
    case atStart => exact ⟨0, by omega, rfl, by simp [Hid]⟩
    case round =>
      obtain ⟨k, hk, rfl, hall⟩ := hrel
      by_cases hlt : k < n
      · obtain ⟨b, off, rfl, hb, hc⟩ := HR.out.2 (by omega)
        obtain ⟨x, hx⟩ := some_at HL.out.symm hlt
        have hcell := hc k _ (ints_at hx)
        have HX := Lib.hid hx
        clear hc hx
        go_wp2_with (go_at_call 22; refine (wordOk_c _ _).mono ?_; rintro e w' ⟨rfl, rfl⟩)
        · go_returns
          refine ⟨retv ?_, by go_grown⟩
          go_light
          rename (_ = true) => h
          have := all_false wordB xs k x HX.out (by simpa using h)
          simp [callB, this]
        · go_round
          case rel =>
            go_light
            rename (_ = false) => h
            exact ⟨k + 1, by omega, by go_num, by show _ = true; rw [take_all _ _ _ _ HX.out]; have := hall.out; simp_all⟩
          case measure => simp [intOf]; omega
      · go_wp2_with (go_at_call 22; refine (wordOk_c _ _).mono ?_; rintro e w' ⟨rfl, rfl⟩)
        go_returns
        refine ⟨retv ?_, by go_grown⟩
        go_light
        have h1 := HL.out; have h2 := hall.out; have h3 := H4.out; have h4 := HW.out
        rw [List.take_of_length_le (by omega)] at h2
        simp [callB, h2, h4]; simp at h3; omega
  · go_returns
    refine ⟨retv ?_, by go_grown⟩
    go_light
    simp_all [callB]
end Go.Proofs.YtmfienlceobfeaaDoor
namespace Go.Proofs.YtmfienlceobfeaaDoor
set_option linter.unusedSimpArgs false
open Go.RowKit
set_option linter.unusedVariables false
/-- A new gate's cells. -/
def gateNewV (k : ByteArray) : Value := .agg #[.string k, .string ByteArray.empty, .string ByteArray.empty, .bool true, .string ByteArray.empty, .string ByteArray.empty]
end Go.Proofs.YtmfienlceobfeaaDoor
