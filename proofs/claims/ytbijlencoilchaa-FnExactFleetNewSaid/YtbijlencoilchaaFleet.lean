/- Contracts of the functions that mark, hold and compare a fleet's parts. Conditions: each contract's own. -/
import Derived.Test.YtbijlencoilchaaGateNew
import Derived.Test.YtbijlencoilchaaCall
import Derived.Test.YtbijlencoilchaaDraw
import Derived.Deep.RegionHeld3
namespace Go.Proofs.Ytbijlencoilchaa
open Go.RowKit
set_option linter.unusedVariables false
set_option linter.unnecessarySimpa false
/-- The figures of k ahead of s. -/
def mdig (k : Nat) (s : ByteArray) : ByteArray := if h : k = 0 then s else mdig (k / 10) (strOfNums [48 + (k : Int) % 10] ++ s)
termination_by k
decreasing_by omega
theorem mdig_zero (s : ByteArray) : mdig 0 s = s := by rw [mdig]; simp
theorem mdig_pos (k : Nat) (s : ByteArray) (h : 0 < k) : mdig k s = mdig (k / 10) (strOfNums [48 + (k : Int) % 10] ++ s) := by
  conv => lhs; rw [mdig]
  rw [dif_neg (by omega)]
/-- The letter m and the figures of k. -/
def mtext (k : Nat) : ByteArray := ⟨#[109]⟩ ++ mdig k ByteArray.empty
theorem strOfNums_size (xs : List Int) : (strOfNums xs).size = xs.length := by
  simp [strOfNums, ByteArray.size]
set_option maxRecDepth 100000 in
theorem markText_c (k : Nat) (h0 : 0 < k) (h : k ≤ 1000000) (w : World) : Calls Try.prog 86 #[.int .i64 k] w (RetB (.string (mtext k)) w) := by
  have hk0 : ((k : Int) ≤ 0) = False := by simp; omega
  go_enter Try.func86, Try.ntmps86
  go_wp2
  go_loopw [0, 3] (fun i s wr => ∃ (j : Nat) (b : ByteArray), j + b.size ≤ 1000000 ∧ i = .int .i64 j ∧ s = .string b ∧ Hid (mdig j b = mdig k ByteArray.empty) ∧ Below w.heap.size w wr) (fun i _ _ => (intOf i).toNat)
  case atStart => exact ⟨k, ⟨#[]⟩, h, rfl, rfl, rfl, Below.refl _ _⟩
  case round =>
    obtain ⟨j, b, hj, rfl, rfl, hd, hbel⟩ := hrel
    by_cases hp : 0 < j
    · have hconv := run_convert_bytes_arg (P := Try.prog) (wr.alloc (.cells #[.int .u8 (48 + (j : Int) % 10)] 5)) 52 5 Try.underlying52 Try.underlying5 wr.heap.size 0 1 1 [48 + (j : Int) % 10] rfl (by
        intro i hi
        obtain rfl : i = 0 := by omega
        simp) 9 Try.underlying9
      have hs1 : (strOfNums [48 + (j : Int) % 10]).size = 1 := strOfNums_size _
      have hle : (strOfNums [48 + (j : Int) % 10]).size + b.size ≤ 9223372036854775807 := by omega
      have hsum := run_string_add_sum (P := Try.prog) (w := wr.alloc (.cells #[.int .u8 (48 + (j : Int) % 10)] 5)) (strOfNums [48 + (j : Int) % 10]) b hle
      have HD := Lib.hid (mdig_pos j b hp)
      clear hle
      go_wp2
      go_roundw
      case rel =>
        go_light
        exact ⟨j / 10, _, by simp [strOfNums_size]; omega, by go_num, rfl, HD.out.symm.trans hd.out, hbel.alloc hbel.size _⟩
      case measure => simp [intOf]; omega
    · obtain rfl : j = 0 := by omega
      have hle : ¬ (9223372036854775807 < 1 + b.size) := by omega
      go_wp2
      go_returns
      have := hd.out
      rw [mdig_zero] at this
      exact ⟨by rw [this]; rfl, hbel⟩
theorem nil_markStringS (k : Int) (w : World) : Calls Try.prog 67 #[.slice none 0 0, .int .i64 k] w (RetW (.int .i64 k) w) := by
  go_enter Try.func67, Try.ntmps67
  go_wp2
  refine wp_loop_rounds 1 ?_
  rw [rounds_succ]
  go_wp2
  go_returns
  exact ⟨rfl, rfl⟩
theorem nil_heldStringS (k : Int) (w : World) : Calls Try.prog 72 #[.slice none 0 0, .int .i64 k] w (RetW (.int .i64 k) w) := by
  go_enter Try.func72, Try.ntmps72
  go_wp2
  refine wp_loop_rounds 1 ?_
  rw [rounds_succ]
  go_wp2
  go_returns
  exact ⟨rfl, rfl⟩
theorem nil_eqStringS (w : World) : Calls Try.prog 63 #[.slice none 0 0, .slice none 0 0] w (RetW (.bool true) w) := by
  go_enter Try.func63, Try.ntmps63
  go_wp2
  refine wp_loop_rounds 1 ?_
  rw [rounds_succ]
  go_wp2
  go_returns
  exact ⟨rfl, rfl⟩
theorem nil_markFlightS (k : Int) (w : World) : Calls Try.prog 70 #[.slice none 0 0, .int .i64 k] w (RetW (.int .i64 k) w) := by
  go_enter Try.func70, Try.ntmps70
  go_wp2
  refine wp_loop_rounds 1 ?_
  rw [rounds_succ]
  go_wp2
  go_returns
  exact ⟨rfl, rfl⟩
theorem nil_heldFlightS (k : Int) (w : World) : Calls Try.prog 75 #[.slice none 0 0, .int .i64 k] w (RetW (.int .i64 k) w) := by
  go_enter Try.func75, Try.ntmps75
  go_wp2
  refine wp_loop_rounds 1 ?_
  rw [rounds_succ]
  go_wp2
  go_returns
  exact ⟨rfl, rfl⟩
theorem nil_eqFlightS (w : World) : Calls Try.prog 65 #[.slice none 0 0, .slice none 0 0] w (RetW (.bool true) w) := by
  go_enter Try.func65, Try.ntmps65
  go_wp2
  refine wp_loop_rounds 1 ?_
  rw [rounds_succ]
  go_wp2
  go_returns
  exact ⟨rfl, rfl⟩
theorem nil_markToldS (k : Int) (w : World) : Calls Try.prog 71 #[.slice none 0 0, .int .i64 k] w (RetW (.int .i64 k) w) := by
  go_enter Try.func71, Try.ntmps71
  go_wp2
  refine wp_loop_rounds 1 ?_
  rw [rounds_succ]
  go_wp2
  go_returns
  exact ⟨rfl, rfl⟩
theorem nil_heldToldS (k : Int) (w : World) : Calls Try.prog 76 #[.slice none 0 0, .int .i64 k] w (RetW (.int .i64 k) w) := by
  go_enter Try.func76, Try.ntmps76
  go_wp2
  refine wp_loop_rounds 1 ?_
  rw [rounds_succ]
  go_wp2
  go_returns
  exact ⟨rfl, rfl⟩
theorem nil_eqToldS (w : World) : Calls Try.prog 66 #[.slice none 0 0, .slice none 0 0] w (RetW (.bool true) w) := by
  go_enter Try.func66, Try.ntmps66
  go_wp2
  refine wp_loop_rounds 1 ?_
  rw [rounds_succ]
  go_wp2
  go_returns
  exact ⟨rfl, rfl⟩
theorem nil_markIntS (k : Int) (w : World) : Calls Try.prog 68 #[.slice none 0 0, .int .i64 k] w (RetW (.int .i64 k) w) := by
  go_enter Try.func68, Try.ntmps68
  go_wp2
  refine wp_loop_rounds 1 ?_
  rw [rounds_succ]
  go_wp2
  go_returns
  exact ⟨rfl, rfl⟩
theorem nil_heldIntS (k : Int) (w : World) : Calls Try.prog 73 #[.slice none 0 0, .int .i64 k] w (RetW (.int .i64 k) w) := by
  go_enter Try.func73, Try.ntmps73
  go_wp2
  refine wp_loop_rounds 1 ?_
  rw [rounds_succ]
  go_wp2
  go_returns
  exact ⟨rfl, rfl⟩
theorem nil_eqIntS (w : World) : Calls Try.prog 46 #[.slice none 0 0, .slice none 0 0] w (RetW (.bool true) w) := by
  go_enter Try.func46, Try.ntmps46
  go_wp2
  refine wp_loop_rounds 1 ?_
  rw [rounds_succ]
  go_wp2
  go_returns
  exact ⟨rfl, rfl⟩
theorem nil_markGateS (k : Int) (w : World) : Calls Try.prog 69 #[.slice none 0 0, .int .i64 k] w (RetW (.int .i64 k) w) := by
  go_enter Try.func69, Try.ntmps69
  go_wp2
  refine wp_loop_rounds 1 ?_
  rw [rounds_succ]
  go_wp2
  go_returns
  exact ⟨rfl, rfl⟩
theorem nil_heldGateS (k : Int) (w : World) : Calls Try.prog 74 #[.slice none 0 0, .int .i64 k] w (RetW (.int .i64 k) w) := by
  go_enter Try.func74, Try.ntmps74
  go_wp2
  refine wp_loop_rounds 1 ?_
  rw [rounds_succ]
  go_wp2
  go_returns
  exact ⟨rfl, rfl⟩
theorem nil_eqGateS (w : World) : Calls Try.prog 64 #[.slice none 0 0, .slice none 0 0] w (RetW (.bool true) w) := by
  go_enter Try.func64, Try.ntmps64
  go_wp2
  refine wp_loop_rounds 1 ?_
  rw [rounds_succ]
  go_wp2
  go_returns
  exact ⟨rfl, rfl⟩
theorem markText_x (x : Int) (k : Nat) (hx : x = (k : Int)) (h0 : 0 < k) (h : k ≤ 1000000) (w : World) : Calls Try.prog 86 #[.int .i64 x] w (RetB (.string (mtext k)) w) := hx ▸ markText_c k h0 h w
def run (k n : Nat) : List Int := (List.range n).map (fun i => ((k + i : Nat) : Int))
theorem run_len (k n : Nat) : (run k n).length = n := by simp [run]
theorem run_succ (k n : Nat) : run k (n + 1) = run k n ++ [((k + n : Nat) : Int)] := by simp [run, List.range_succ]
theorem run_at (k n i : Nat) (h : i < n) : (run k n)[i]? = some ((k + i : Nat) : Int) := by simp [run, h]
theorem markIntS_c (base g n cap k : Nat) (ys : List Value) (w : World) (h : w.ownsRow base 3 1 (.slice (some ⟨g, 0, none⟩) n cap) n ys) (hk : k + n ≤ 1000000) :
    Calls Try.prog 68 #[.slice (some ⟨g, 0, none⟩) n cap, .int .i64 k] w (fun e w' => e = .returned (.int .i64 ((k + n : Nat) : Int)) ∧ w'.ownsRow base 3 1 (.slice (some ⟨g, 0, none⟩) n cap) n (ints (run k n)) ∧ w.grownBy w' (some g)) := by
  have H := Lib.hid h
  clear h
  go_enter Try.func68, Try.ntmps68
  go_wp2
  go_loopw [1, 5] (fun q i wr => ∃ (j : Nat) (zs : List Value), j ≤ n ∧ i = .int .i64 j ∧ q = .int .i64 ((k + j : Nat) : Int) ∧ Hid (wr.ownsRow base 3 1 (.slice (some ⟨g, 0, none⟩) n cap) n zs) ∧ Hid (zs.take j = ints (run k j)) ∧ Hid (w.grownBy wr (some g))) (fun _ i _ => n - (intOf i).toNat)
  case atStart => exact ⟨0, ys, by omega, rfl, rfl, H, rfl, gr_refl _ _⟩
  case round =>
    obtain ⟨j, zs, hj, rfl, rfl, HO, HT, HG⟩ := hrel
    by_cases hlt : j < n
    · obtain ⟨y, hy⟩ := some_at HO.out.1 (k := j) (by omega)
      have hc := (HO.out.cellAt j (by omega)).trans hy
      have hf := HO.out.frozenAt j
      have HY := Lib.hid hy
      clear hy
      go_wp2
      go_roundw
      case rel =>
        go_light
        have hl := HO.out.1
        refine ⟨j + 1, zs.set j (.int .i64 ((k + j : Nat) : Int)), by omega, by go_num, by go_num, (HO.out.stored j _).1, ?_, gr_set HG.out (.inl rfl) _⟩
        show _ = _
        have := HT.out
        rw [List.take_add_one, List.getElem?_set_self (by omega), List.take_set_of_le (by omega), this, run_succ]
        simp [ints]
      case measure => simp [intOf]; omega
    · obtain rfl : j = n := by omega
      go_wp2
      go_returns
      have ht := HT.out
      have hl := HO.out.1
      rw [List.take_of_length_le (by omega)] at ht
      subst ht
      exact ⟨rfl, HO.out, HG.out⟩
theorem heldIntS_c (A : Option Addr) (n c k : Nat) (w : World) (hr : Rd w w.heap.size 1 A n (ints (run k n))) (hk : k + n ≤ 1000000) :
    Calls Try.prog 73 #[.slice A n c, .int .i64 k] w (RetB (.int .i64 ((k + n : Nat) : Int)) w) := by
  have HR := Lib.hid hr
  clear hr
  go_enter Try.func73, Try.ntmps73
  go_wp2
  go_loopw [1, 5] (fun q i wr => ∃ (j : Nat), j ≤ n ∧ i = .int .i64 j ∧ q = .int .i64 ((k + j : Nat) : Int) ∧ Below w.heap.size w wr) (fun _ i _ => n - (intOf i).toNat)
  case atStart => exact ⟨0, by omega, rfl, rfl, Below.refl _ _⟩
  case round =>
    obtain ⟨j, hj, rfl, rfl, hbel⟩ := hrel
    by_cases hlt : j < n
    · obtain ⟨b, off, rfl, hb, hc⟩ := HR.out.2 (by omega)
      have hcell := (hbel.cell (p := ⟨b, off + j, none⟩) hb).trans (hc j _ (ints_at (run_at k n j hlt)))
      clear hc
      go_wp2
      go_roundw
      case rel =>
        go_light
        exact ⟨j + 1, by omega, by go_num, by go_num, hbel⟩
      case measure => simp [intOf]; omega
    · obtain rfl : j = n := by omega
      go_wp2
      go_returns
      exact ⟨rfl, hbel⟩
end Go.Proofs.Ytbijlencoilchaa
