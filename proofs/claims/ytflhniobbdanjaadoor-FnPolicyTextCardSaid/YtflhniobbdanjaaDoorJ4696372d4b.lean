/- Parts of laws in one text. Conditions: each lemma's own. -/
import Derived.Test.YtflhniobbdanjaaDoorJdc48d9076a
import Derived.Test.YtflhniobbdanjaaDoorJf55bca5cfc
import Derived.Deep.DrawnRows
namespace Go.Proofs.YtflhniobbdanjaaDoor
set_option linter.unusedSimpArgs false
open Go.RowKit
set_option linter.unusedVariables false
set_option linter.unnecessarySimpa false
/-- The words behind so many blocks. -/
def hwAt (L : List Int) (k : Nat) : List Int := (absorb (initW, []) (L.take (64 * k))).1
def blkAt (L : List Int) (k : Nat) : List Int := (L.drop (64 * k)).take 64
theorem blkAt_len {L : List Int} {k : Nat} (h : 64 * (k + 1) ≤ L.length) : (blkAt L k).length = 64 := by
  unfold blkAt
  rw [List.length_take, List.length_drop]; omega
theorem absorb_blocks (L : List Int) (k : Nat) (h : 64 * k ≤ L.length) : absorb (initW, []) (L.take (64 * k)) = (hwAt L k, []) := by
  have h2 : (absorb (initW, []) (L.take (64 * k))).2 = [] := by
    have := absorb_len (initW, []) (L.take (64 * k)) (by simp)
    rw [List.length_take] at this
    apply List.eq_nil_of_length_eq_zero
    rw [this]; simp; omega
  exact Prod.ext rfl h2
theorem hwAt_succ (L : List Int) (k : Nat) (h : 64 * (k + 1) ≤ L.length) : hwAt L (k + 1) = mixed (hwAt L k) (blkAt L k) := by
  have e : L.take (64 * (k + 1)) = L.take (64 * k) ++ blkAt L k := by
    unfold blkAt
    rw [show 64 * (k + 1) = 64 * k + 64 from by omega, List.take_add]
  show (absorb (initW, []) (L.take (64 * (k + 1)))).1 = _
  rw [e, absorb_append, absorb_blocks L k (by omega), absorb_full _ [] _ (by simp [blkAt_len h]) (by simp)]
  rfl
theorem hwAt_ok (L : List Int) (k : Nat) : (hwAt L k).length = 8 ∧ ∀ x ∈ hwAt L k, isU32 x := absorb_ok initW_len initW_u32 _
theorem hwAt_all {L : List Int} {M : Nat} (h : L.length = 64 * M) : hwAt L M = (absorb (initW, []) L).1 := by
  unfold hwAt
  rw [← h, List.take_length]
theorem pad_len (s : ByteArray) : ∃ M, (bytesI s ++ padOf s.size).length = 64 * M ∧ 64 * M ≤ s.size + 128 := by
  have h : (bytesI s ++ padOf s.size).length = s.size + 1 + padZ (s.size + 1) + 8 := by
    unfold padOf
    simp [bytesI_len, be_len]; omega
  refine ⟨(s.size + 1 + padZ (s.size + 1) + 8) / 64, ?_, ?_⟩
  · rw [h]; unfold padZ; omega
  · unfold padZ; omega
theorem pad_byte (s : ByteArray) : ∀ x ∈ bytesI s ++ padOf s.size, 0 ≤ x ∧ x ≤ 255 := by
  intro x hx
  unfold padOf at hx
  simp only [List.mem_append] at hx
  rcases hx with hx | (hx | hx) | hx
  · exact bytesI_byte s x hx
  · simp at hx; omega
  · have := List.eq_of_mem_replicate hx; omega
  · exact be_byte _ _ x hx
theorem OwnZ.up {w w' : World} {base g n cap : Nat} {xs : List Value} (h : OwnZ w base g n cap xs) (hb : Below w.heap.size w w') : OwnZ w' base g n cap xs := by
  have hbk := hb.block g h.lt
  exact ⟨h.ge, h.le, h.len, by have := h.lt; have := hb.size; omega, fun j u hu => (World.cell?_of_block (w := w) (a := ⟨g, j, none⟩) hbk).trans (h.cells j u hu), fun j hj => by
    rw [World.cell?_of_block (w := w) (a := ⟨g, j, none⟩) hbk, World.frozen?_of_block (w := w) (a := ⟨g, j, none⟩) hbk]; exact h.room j hj⟩
theorem OwnZ.part {w : World} {base g n cap : Nat} {xs : List Value} (h : OwnZ w base g n cap xs) (o m : Nat) (hm : o + m ≤ n) : Rd w w.heap.size 1 (some ⟨g, o, none⟩) m ((xs.drop o).take m) :=
  ⟨by rw [List.length_take, List.length_drop, h.len]; omega, fun _ => ⟨g, o, rfl, h.lt, fun j u hu => by
    rw [List.getElem?_take] at hu
    split at hu
    · rw [List.getElem?_drop] at hu
      exact h.cells _ u hu
    · cases hu⟩⟩
theorem OwnZ.drew {w : World} {base g n cap : Nat} {xs : List Value} (h : OwnZ w base g n cap xs) : OwnZ w.drew base g n cap xs := ⟨h.ge, h.le, h.len, h.lt, h.cells, h.room⟩
theorem OwnZ.kept {w w' : World} {base g n cap : Nat} {xs : List Value} (h : OwnZ w base g n cap xs) {row : Option Nat} (hg : w.grownBy w' row) (hr : row ≠ some g) : OwnZ w' base g n cap xs := by
  have hbk := hg.block g h.lt (fun e => hr e.symm)
  exact ⟨h.ge, h.le, h.len, by have := h.lt; have := hg.size; omega, fun j u hu => (World.cell?_of_block (w := w) (a := ⟨g, j, none⟩) hbk).trans (h.cells j u hu), fun j hj => by
    rw [World.cell?_of_block (w := w) (a := ⟨g, j, none⟩) hbk, World.frozen?_of_block (w := w) (a := ⟨g, j, none⟩) hbk]; exact h.room j hj⟩
theorem u8s_part (L : List Int) (k : Nat) : ((u8s L).drop (64 * k)).take 64 = u8s (blkAt L k) := by simp [u8s, blkAt, List.map_take, List.map_drop]
theorem blkAt_byte {L : List Int} (h : ∀ x ∈ L, 0 ≤ x ∧ x ≤ 255) (k : Nat) : ∀ x ∈ blkAt L k, 0 ≤ x ∧ x ≤ 255 :=
  fun x hx => h x (List.mem_of_mem_drop (List.mem_of_mem_take hx))
theorem u32_top {x : Int} (h : isU32 x) : x / 16777216 % 256 = x / 16777216 := by unfold isU32 at h; omega
theorem four_cells (w : World) (t g : Nat) (x y z u : Value) (hg : g = w.heap.size) : ∀ j v, ([x, y, z, u] : List Value)[j]? = some v → (w.alloc (.cells #[x, y, z, u] t)).cell? ((⟨g, 0, none⟩ : Addr).add j) = some v :=
  fun j v hv => by rw [add_zero_block]; exact (Blk.newAt w t g [x, y, z, u] hg).cell hv
end Go.Proofs.YtflhniobbdanjaaDoor
namespace Go.Proofs.YtflhniobbdanjaaDoor
set_option linter.unusedSimpArgs false
open Go.RowKit
set_option linter.unusedVariables false
set_option linter.unnecessarySimpa false
theorem cat_one (s : ByteArray) : catB [s] = bytesI s := by simp [catB]
theorem strOf_size (l : List Int) : (strOfNums l).size = l.length := by
  rw [Lib.size_eq]; simp [strOfNums]
end Go.Proofs.YtflhniobbdanjaaDoor
namespace Go.Proofs.YtflhniobbdanjaaDoor
set_option linter.unusedSimpArgs false
open Go.RowKit
set_option linter.unusedVariables false
set_option linter.unnecessarySimpa false
theorem u8_bits (op : BinOp) (a b : Int) (h : op = .and ∨ op = .or ∨ op = .xor ∨ op = .andNot) : 0 ≤ bits op .u8 a b ∧ bits op .u8 a b ≤ 255 := by
  have key : ∀ n : Nat, 0 ≤ IntKind.u8.wrap (n : Int) ∧ IntKind.u8.wrap (n : Int) ≤ 255 := fun n => by
    rw [IntKind.wrap_u8]; omega
  rcases h with rfl | rfl | rfl | rfl
  · exact key _
  · exact key _
  · exact key _
  · exact key _
def xor8 (a b : Int) : Int := bits .xor .u8 a b
/-- The first n bytes of a key of 64 bytes, each put together with c. -/
def padTo (K : List Int) (c : Int) (n : Nat) : List Int := (List.range n).map (fun i => xor8 (K.getD i 0) c)
theorem padTo_succ (K : List Int) (c : Int) (n : Nat) : padTo K c (n + 1) = padTo K c n ++ [xor8 (K.getD n 0) c] := by simp [padTo, List.range_succ]
theorem padTo_len (K : List Int) (c : Int) (n : Nat) : (padTo K c n).length = n := by simp [padTo]
theorem padTo_byte (K : List Int) (c : Int) (n : Nat) : ∀ x ∈ padTo K c n, 0 ≤ x ∧ x ≤ 255 := by
  intro x hx
  simp only [padTo, List.mem_map] at hx
  obtain ⟨i, _, rfl⟩ := hx
  exact u8_bits .xor _ _ (by simp)
/-- A key that is too long is summed first. -/
def keyS (k : ByteArray) : ByteArray := if 64 < k.size then strOfNums (digest (bytesI k)) else k
theorem keyS_size (k : ByteArray) : (keyS k).size ≤ 64 := by
  unfold keyS
  split
  · rw [strOf_size, digest_len]; omega
  · omega
theorem bytesI_append (a b : ByteArray) : bytesI (a ++ b) = bytesI a ++ bytesI b := by
  simp [bytesI, ByteArray.data_append]
theorem getD_out {l : List Int} {k : Nat} (h : ¬ k < l.length) : l.getD k 0 = 0 := by
  simp [List.getD, List.getElem?_eq_none (show l.length ≤ k by omega)]
end Go.Proofs.YtflhniobbdanjaaDoor
namespace Go.Proofs.YtflhniobbdanjaaDoor
set_option linter.unusedSimpArgs false
open Go.RowKit
set_option linter.unusedVariables false
set_option linter.unnecessarySimpa false
/-- A key of 64 bytes, of which the first n have been put together with c. -/
def kk (K : List Int) (c : Int) (n : Nat) : List Int := (List.range 64).map (fun i => if i < n then xor8 (K.getD i 0) c else K.getD i 0)
theorem kk_len (K : List Int) (c : Int) (n : Nat) : (kk K c n).length = 64 := by simp [kk]
theorem kk_at (K : List Int) (c : Int) (n : Nat) (h : n < 64) : (kk K c n)[n]? = some (K.getD n 0) := by
  simp [kk, h]
theorem kk_set (K : List Int) (c : Int) (n : Nat) (h : n < 64) : (kk K c n).set n (xor8 (K.getD n 0) c) = kk K c (n + 1) := by
  apply List.ext_getElem?
  intro i
  by_cases hi : i = n
  · subst hi
    rw [List.getElem?_set_self (by rw [kk_len]; exact h)]
    simp [kk, h]
  · rw [List.getElem?_set_ne (by omega)]
    unfold kk
    simp only [List.getElem?_map]
    by_cases h64 : i < 64
    · simp only [List.getElem?_range h64, Option.map_some]
      have : (i < n + 1) ↔ (i < n) := by omega
      simp [this]
    · rw [List.getElem?_eq_none (by simp; omega)]; rfl
theorem kk_all (K : List Int) (c : Int) : kk K c 64 = padTo K c 64 := by
  unfold kk padTo
  apply List.map_congr_left
  intro i hi
  rw [if_pos (List.mem_range.1 hi)]
theorem kk_none {K : List Int} (c : Int) (h : K.length ≤ 64) : kk K c 0 = K ++ List.replicate (64 - K.length) 0 := by
  apply List.ext_getElem?
  intro i
  unfold kk
  by_cases h64 : i < 64
  · simp only [List.getElem?_map, List.getElem?_range h64, Option.map_some, Nat.not_lt_zero, if_false]
    by_cases hi : i < K.length
    · rw [List.getElem?_append_left hi]
      simp [List.getD, hi]
    · rw [List.getElem?_append_right (by omega), List.getElem?_replicate, if_pos (by omega)]
      simp [List.getD, List.getElem?_eq_none (show K.length ≤ i by omega)]
  · rw [List.getElem?_eq_none (by simp; omega), List.getElem?_eq_none (by simp; omega)]
theorem below_setRow {B k : Nat} {a w : World} (h : Below B a w) (hk : B ≤ k) (cs : Array Value) : Below B a (w.setRow k cs) :=
  h.trans ⟨rfl, rfl, rfl, by simp, fun i hi => setRow_other w k i cs (by omega)⟩
end Go.Proofs.YtflhniobbdanjaaDoor
