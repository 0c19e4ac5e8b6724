/- Contracts of the functions on calls: sizes, copies, comparison, CallOk on both sides. Conditions: each contract's own. -/
import Derived.Test.YtljgaepgblakhaaDoorRows
import Derived.Test.YtljgaepgblakhaaDoorBase
namespace Go.Proofs.YtljgaepgblakhaaDoor
set_option linter.unusedSimpArgs false
open Go.RowKit
set_option linter.unusedVariables false
theorem info_int : (Tryd.prog.info? 3).map (fun i => (i.zero, i.size, i.bytes)) = some (some (.int .i64 0), 1, 8) := by kernel_rfl
theorem wordOk_c (n : Int) (w : World) : Calls Tryd.prog 73 #[.int .i64 n] w (RetW (.bool (wordB n)) w) := by
  go_enter Tryd.func73, Tryd.ntmps73
  go_wp2
  all_goals go_returns
  all_goals (refine ⟨?_, rfl⟩)
  all_goals go_light
  all_goals simp [wordB]; omega
theorem l1In_word (n : Int) (w : World) : Calls Tryd.prog 70 #[.int .i64 n, .int .i64 0, .int .i64 4294967295] w (RetW (.bool (wordB n)) w) := by
  go_enter Tryd.func70, Tryd.ntmps70
  go_wp2
  all_goals go_returns
  all_goals (refine ⟨?_, rfl⟩)
  all_goals go_light
  all_goals simp [wordB]; omega
theorem l1In_c (n a b : Int) (w : World) : Calls Tryd.prog 70 #[.int .i64 n, .int .i64 a, .int .i64 b] w (RetW (.bool (decide (a ≤ n ∧ n ≤ b))) w) := by
  go_enter Tryd.func70, Tryd.ntmps70
  go_wp2
  all_goals go_returns
  all_goals (refine ⟨?_, rfl⟩)
  all_goals go_light
  all_goals simp; omega
theorem callOk_c (num : Int) (A : Option Addr) (n c : Nat) (xs : List Int) (w : World) (hr : Rd w w.heap.size 1 A n (ints xs)) (hn : n ≤ 9223372036854775807) :
    Calls Tryd.prog 60 #[.agg #[.int .i64 num, .slice A n c]] w (RetB (.bool (callB num xs)) w) := by
  have hl : n = xs.length := by simpa [ints] using hr.1.symm
  have HR := Lib.hid hr
  have HL := Lib.hid hl
  clear hr hl
  go_enter Tryd.func60, Tryd.ntmps60
  go_wp2_with (go_at_call 73; refine (wordOk_c _ _).mono ?_; rintro e w' ⟨rfl, rfl⟩)
  · go_returns
    refine ⟨retv ?_, by go_grown⟩
    go_light
    have := HL.out
    simp_all [callB]
    omega
  · rename (_ = false) => h4; have H4 := Lib.hid h4; clear h4
    rename (_ = true) => h4; have HW := Lib.hid h4; clear h4
    go_loop [18] (fun i => ∃ k : Nat, k ≤ n ∧ i = .int .i64 k ∧ Hid ((xs.take k).all wordB = true)) (fun i => n - (intOf i).toNat)
    case atStart => exact ⟨0, by omega, rfl, by simp [Hid]⟩
    case round =>
      obtain ⟨k, hk, rfl, hall⟩ := hrel
      by_cases hlt : k < n
      · obtain ⟨b, off, rfl, hb, hc⟩ := HR.out.2 (by omega)
        obtain ⟨x, hx⟩ := some_at HL.out.symm hlt
        have hcell := hc k _ (ints_at hx)
        have HX := Lib.hid hx
        clear hc hx
        go_wp2_with (go_at_call 73; refine (wordOk_c _ _).mono ?_; rintro e w' ⟨rfl, rfl⟩)
        · go_returns
          refine ⟨retv ?_, by go_grown⟩
          go_light
          rename (_ = true) => h
          have := all_false wordB xs k x HX.out (by simpa using h)
          simp [callB, this]
        · go_round
          case rel =>
            go_light
            rename (_ = false) => h
            exact ⟨k + 1, by omega, by go_num, by show _ = true; rw [take_all _ _ _ _ HX.out]; have := hall.out; simp_all⟩
          case measure => simp [intOf]; omega
      · go_wp2_with (go_at_call 73; refine (wordOk_c _ _).mono ?_; rintro e w' ⟨rfl, rfl⟩)
        go_returns
        refine ⟨retv ?_, by go_grown⟩
        go_light
        have h1 := HL.out; have h2 := hall.out; have h3 := H4.out; have h4 := HW.out
        rw [List.take_of_length_le (by omega)] at h2
        simp [callB, h2, h4]; simp at h3; omega
  · go_returns
    refine ⟨retv ?_, by go_grown⟩
    go_light
    simp_all [callB]
theorem specCallOk_c (num : Int) (A : Option Addr) (n c : Nat) (xs : List Int) (w : World) (hr : Rd w w.heap.size 1 A n (ints xs)) (hn : n ≤ 9223372036854775807) :
    Calls Tryd.prog 67 #[.agg #[.int .i64 num, .slice A n c]] w (RetB (.bool (callB num xs)) w) := by
  have hl : n = xs.length := by simpa [ints] using hr.1.symm
  have HR := Lib.hid hr
  have HL := Lib.hid hl
  clear hr hl
  go_enter Tryd.func67, Tryd.ntmps67
  go_wp2_with (go_at_call 70; refine (l1In_word _ _).mono ?_; rintro e w' ⟨rfl, rfl⟩)
  · go_returns
    refine ⟨retv ?_, by go_grown⟩
    go_light
    have := HL.out
    simp_all [callB]
    omega
  · rename (_ = false) => h4; have H4 := Lib.hid h4; clear h4
    rename (_ = true) => h4; have HW := Lib.hid h4; clear h4
    go_loop [3] (fun i => ∃ k : Nat, k ≤ n ∧ i = .int .i64 k ∧ Hid ((xs.take k).all wordB = true)) (fun i => n - (intOf i).toNat)
    case atStart => exact ⟨0, by omega, rfl, by simp [Hid]⟩
    case round =>
      obtain ⟨k, hk, rfl, hall⟩ := hrel
      by_cases hlt : k < n
      · obtain ⟨b, off, rfl, hb, hc⟩ := HR.out.2 (by omega)
        obtain ⟨x, hx⟩ := some_at HL.out.symm hlt
        have hcell := hc k _ (ints_at hx)
        have HX := Lib.hid hx
        clear hc hx
        go_wp2_with (go_at_call 70; refine (l1In_word _ _).mono ?_; rintro e w' ⟨rfl, rfl⟩)
        · go_returns
          refine ⟨retv ?_, by go_grown⟩
          go_light
          rename (_ = true) => h
          have := all_false wordB xs k x HX.out (by simpa using h)
          simp [callB, this]
        · go_round
          case rel =>
            go_light
            rename (_ = false) => h
            exact ⟨k + 1, by omega, by go_num, by show _ = true; rw [take_all _ _ _ _ HX.out]; have := hall.out; simp_all⟩
          case measure => simp [intOf]; omega
      · go_wp2_with (go_at_call 70; refine (l1In_word _ _).mono ?_; rintro e w' ⟨rfl, rfl⟩)
        go_returns
        refine ⟨retv ?_, by go_grown⟩
        go_light
        have h1 := HL.out; have h2 := hall.out; have h3 := H4.out; have h4 := HW.out
        rw [List.take_of_length_le (by omega)] at h2
        simp [callB, h2, h4]; simp at h3; omega
  · go_returns
    refine ⟨retv ?_, by go_grown⟩
    go_light
    simp_all [callB]
theorem eqIntS_c (A B : Option Addr) (n c m d : Nat) (xs ys : List Int) (w : World) (hx : Rd w w.heap.size 1 A n (ints xs)) (hy : Rd w w.heap.size 1 B m (ints ys)) (hn : n ≤ 9223372036854775807) (hm : m ≤ 9223372036854775807) :
    Calls Tryd.prog 44 #[.slice A n c, .slice B m d] w (RetB (.bool (xs == ys)) w) := by
  have hlx : xs.length = n := by simpa [ints] using hx.1
  have hly : ys.length = m := by simpa [ints] using hy.1
  have HX := Lib.hid hx
  have HY := Lib.hid hy
  clear hx hy
  by_cases hnm : n = m
  · subst hnm
    have HLX := Lib.hid hlx
    have HLY := Lib.hid hly
    clear hlx hly
    go_enter Tryd.func44, Tryd.ntmps44
    go_wp2
    go_loopw [5] (fun i wr => ∃ k : Nat, k ≤ n ∧ i = .int .i64 k ∧ Hid (xs.take k = ys.take k) ∧ Below w.heap.size w wr) (fun i _ => n - (intOf i).toNat)
    case atStart => exact ⟨0, by omega, rfl, by simp [Hid], Below.refl _ _⟩
    case round =>
      obtain ⟨k, hk, rfl, hall, hbel⟩ := hrel
      by_cases hlt : k < n
      · obtain ⟨b, off, rfl, hb, hc⟩ := HX.out.2 (by omega)
        obtain ⟨b2, off2, rfl, hb2, hc2⟩ := HY.out.2 (by omega)
        obtain ⟨x, hx⟩ := some_at HLX.out hlt
        obtain ⟨y, hy⟩ := some_at HLY.out hlt
        have hcell := (hbel.cell (p := ⟨b, off + k, none⟩) hb).trans (hc k _ (ints_at hx))
        have hcell2 := (hbel.cell (p := ⟨b2, off2 + k, none⟩) hb2).trans (hc2 k _ (ints_at hy))
        have GX := Lib.hid hx
        have GY := Lib.hid hy
        clear hc hc2 hx hy
        go_wp2
        go_region
        go_wp2
        · go_returns
          go_light
          rename (_ = true) => h
          refine ⟨retv ?_, hbel.drew⟩
          have hne := ne_of_at GX.out GY.out (by simpa using h)
          simp [hne]
        · go_roundw
          case rel =>
            go_light
            rename (_ = false) => h
            obtain rfl : x = y := by simpa using h
            exact ⟨k + 1, by omega, by go_num, take_ext hall.out GX.out GY.out, hbel.drew⟩
          case measure => simp [intOf]; omega
      · go_wp2
        go_returns
        go_light
        obtain rfl : k = n := by omega
        have e := take_full HLX.out HLY.out hall.out
        exact ⟨by simp [e], hbel⟩
  · have hne : (xs == ys) = false := by
      rw [beq_eq_false_iff_ne]; rintro rfl; omega
    have HN := Lib.hid hne
    clear hne
    go_enter Tryd.func44, Tryd.ntmps44
    go_wp2
    all_goals (go_returns; refine ⟨retv ?_, by go_grown⟩; rw [HN.out]; rfl)
end Go.Proofs.YtljgaepgblakhaaDoor
