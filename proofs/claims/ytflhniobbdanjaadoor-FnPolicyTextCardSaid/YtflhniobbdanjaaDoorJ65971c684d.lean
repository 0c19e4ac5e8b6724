/- Parts of laws in one text. Conditions: each lemma's own. -/
import Derived.Test.YtflhniobbdanjaaDoorJ9c4d3dd545
import Derived.Test.YtflhniobbdanjaaDoorJ90ac331a61
namespace Go.Proofs.YtflhniobbdanjaaDoor
set_option linter.unusedSimpArgs false
open Go.RowKit
set_option linter.unusedVariables false
set_option linter.unnecessarySimpa false
set_option maxRecDepth 20000
theorem indexByte_no {c : UInt8} : ∀ {l : List UInt8}, c ∉ l → Lib.indexByte l c = -1
  | [], _ => rfl
  | x :: t, h => by
    rw [List.mem_cons, not_or] at h
    rw [Lib.indexByte, if_neg (fun e => h.1 (beq_iff_eq.1 e).symm), if_pos (beq_iff_eq.2 (indexByte_no h.2))]
theorem str_ten : (str [10] : ByteArray) = ⟨#[10]⟩ := rfl
set_option maxHeartbeats 1600000 in
set_option maxRecDepth 100000 in
/-- A text too long. -/
theorem readI_long (l : List UInt8) (hl : 900 < l.length) (hl2 : l.length ≤ 2000000) (w : World) :
    Calls Tryd.prog 6 #[.string (str l)] w (fun e w' => e = .returned (.tuple #[.agg #[.slice none 0 0, .int .i64 0], .int .i64 1]) ∧ Below w.heap.size w w') := by
  have hmf : ∀ (fn : Fn) (first cap : Array Value) (w : World), (Instr.makeFunc fn first cap).run Tryd.prog w = .ok (.func fn first cap) w := fun _ _ _ _ => rfl
  have hsz := str_size l
  have hd : decide ((900 : Int) < ((str l).size : Int)) = true := by simp; omega
  clear hsz
  generalize str l = L at *
  go_enter_defers Tryd.func6, Tryd.ntmps6
  go_wp2
  refine leaves_cons (f := 20) (args := #[.pointer (some ⟨w.heap.size, 0, none⟩), .pointer (some ⟨w.heap.size + 1, 0, none⟩)]) (by simp) (by simp [go_sem]) ?_
  refine (catch_idle w.heap.size (w.heap.size + 1) _).mono ?_
  rintro e u' w'' ⟨rfl, rfl, rfl⟩
  have c0 := (Blk.new w 24 [.slice none 0 0, .int .i64 0]).alloc (.cells #[.int .i64 1] 3)
  have c1 := Blk.new (w.alloc (.cells #[.slice none 0 0, .int .i64 0] 24)) 3 [.int .i64 1]
  rw [World.size_alloc] at c1
  have p0 := c0.cell (i := 0) rfl
  have p1 := c0.cell (i := 1) rfl
  have f0 := c1.cell (i := 0) rfl
  clear c0 c1
  simp [Leaves, settle, results, Tryd.results6, go_sem, p0, p1, f0]
  go_grown
set_option maxHeartbeats 1600000 in
set_option maxRecDepth 100000 in
/-- A text without an end of a line. -/
theorem readI_nonl (l : List UInt8) (hl : l.length ≤ 900) (hn : (10 : UInt8) ∉ l) (w : World) :
    Calls Tryd.prog 6 #[.string (str l)] w (fun e w' => e = .returned (.tuple #[.agg #[.slice none 0 0, .int .i64 0], .int .i64 1]) ∧ Below w.heap.size w w') := by
  have hmf : ∀ (fn : Fn) (first cap : Array Value) (w : World), (Instr.makeFunc fn first cap).run Tryd.prog w = .ok (.func fn first cap) w := fun _ _ _ _ => rfl
  have hsz := str_size l
  have hd : decide ((900 : Int) < ((str l).size : Int)) = false := by simp; omega
  have hix : decide (0 ≤ Lib.indexByte (str l).data.toList 10) = false := by
    rw [str_list]
    have := indexByte_no hn
    simp [this]
  have hC := fun W => Tryd.strings_Contains_one (str l) 10 W
  simp only [hix] at hC
  have HC := Lib.hid hC
  clear hsz hC hix
  generalize str l = L at *
  go_enter_defers Tryd.func6, Tryd.ntmps6
  (go_wp2_with fail); (go_at_call 21; refine (HC.out _).mono ?_; rintro e w1 ⟨rfl, rfl⟩; skip)
  go_wp2
  refine leaves_cons (f := 20) (args := #[.pointer (some ⟨w.heap.size, 0, none⟩), .pointer (some ⟨w.heap.size + 1, 0, none⟩)]) (by simp) (by simp [go_sem]) ?_
  refine (catch_idle w.heap.size (w.heap.size + 1) _).mono ?_
  rintro e u' w'' ⟨rfl, rfl, rfl⟩
  have c0 := (Blk.new w 24 [.slice none 0 0, .int .i64 0]).alloc (.cells #[.int .i64 1] 3)
  have c1 := Blk.new (w.alloc (.cells #[.slice none 0 0, .int .i64 0] 24)) 3 [.int .i64 1]
  rw [World.size_alloc] at c1
  have p0 := c0.cell (i := 0) rfl
  have p1 := c0.cell (i := 1) rfl
  have f0 := c1.cell (i := 0) rfl
  clear c0 c1
  simp [Leaves, settle, results, Tryd.results6, go_sem, p0, p1, f0]
  go_grown
end Go.Proofs.YtflhniobbdanjaaDoor
namespace Go.Proofs.YtflhniobbdanjaaDoor
set_option linter.unusedSimpArgs false
open Go.RowKit
set_option linter.unusedVariables false
set_option linter.unnecessarySimpa false
theorem countB_ten (l : List UInt8) : Lib.countB (str l) ⟨#[10]⟩ = l.count 10 := by
  have h : Lib.countB (str l) ⟨#[10]⟩ = Lib.count (str l).data.toList [10] := rfl
  rw [h, str_list, Lib.count_one]
theorem split_rows (l : List UInt8) : Lib.splitB ⟨#[10]⟩ 0 (Lib.countB (str l) ⟨#[10]⟩) (str l) = (cuts 10 l).map str := by
  have h := Lib.splitB_data ⟨#[10]⟩ 0 (Lib.countB (str l) ⟨#[10]⟩) (str l)
  rw [str_list, countB_ten] at h
  have e : (⟨#[10]⟩ : ByteArray).data.toList = [10] := rfl
  rw [e, splitK_cuts 10 _ l rfl] at h
  rw [countB_ten, ← h, List.map_map]
  conv => lhs; rw [← List.map_id (Lib.splitB ⟨#[10]⟩ 0 (l.count 10) (str l))]
  exact List.map_congr_left (fun s _ => (str_of s).symm)
theorem split_c (l : List UInt8) (hl : l.length ≤ 1000000) (w : World) :
    Calls Tryd.prog 22 #[.string (str l), .string ⟨#[10]⟩] w (fun e w' => e = .returned (.slice (some ⟨w.heap.size, 0, none⟩) (cuts 10 l).length (cuts 10 l).length) ∧ w' = w.alloc (.cells (((cuts 10 l).map str).map Value.string).toArray 9)) := by
  have hs : (str l).size < 4294967281 := by rw [str_size]; omega
  have hle := Lib.countB_le ⟨#[10]⟩ (by decide) (str l).size (str l) (Nat.le_refl _)
  have hlen := Lib.splitB_all ⟨#[10]⟩ (by decide) 0 _ (str l) rfl
  have c := Any.strings_genSplit_core Tryd.lays221 (by kernel_rfl) (str l) ⟨#[10]⟩ 0 (-1) (Lib.countB (str l) ⟨#[10]⟩ + 1) w hs (by decide) (Nat.zero_le _)
    (fun x cc hx => (Tryd.strings_Index_one x 10 _).mono (fun e w' h => by rw [← Lib.index_one] at h; exact h)) ((Tryd.strings_Count_one (str l) 10 w).mono (fun e w' h => by rw [countB_ten]; rw [str_list] at h; exact h)) (by decide) (by decide) (by rw [if_pos (by decide)]; omega)
  rw [Nat.add_sub_cancel, hlen] at c
  have e2 : Lib.cellsOf (Lib.splitB ⟨#[10]⟩ 0 (Lib.countB (str l) ⟨#[10]⟩) (str l)) (Lib.countB (str l) ⟨#[10]⟩ + 1) = ((Lib.splitB ⟨#[10]⟩ 0 (Lib.countB (str l) ⟨#[10]⟩) (str l)).map Value.string).toArray := by rw [← hlen]; exact Lib.cellsOf_full _
  have e3 : Lib.countB (str l) ⟨#[10]⟩ + 1 = (cuts 10 l).length := by rw [countB_ten, cuts_len]
  rw [e2, split_rows, e3] at c
  have HC := Lib.hid c
  clear c hs hle hlen e2 e3
  generalize str l = L at *
  go_enter Tryd.func22, Tryd.ntmps22
  go_wp2_with fail
  refine HC.out.mono ?_
  rintro e w1 ⟨rfl, rfl⟩
  go_wp2
  go_returns
  exact ⟨rfl, by rw [List.map_map]; rfl⟩
end Go.Proofs.YtflhniobbdanjaaDoor
