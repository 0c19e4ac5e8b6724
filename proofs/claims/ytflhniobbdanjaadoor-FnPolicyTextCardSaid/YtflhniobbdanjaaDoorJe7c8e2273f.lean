/- Parts of laws in one text. Conditions: each lemma's own. -/
import Derived.Test.YtflhniobbdanjaaDoorJ6d555389ee
import Derived.Deep.CutBlock
import Derived.Laws.BytesArg
namespace Go.Proofs.YtflhniobbdanjaaDoor
set_option linter.unusedSimpArgs false
open Go.RowKit
set_option linter.unusedVariables false
set_option linter.unnecessarySimpa false
theorem eat_len (st : List Int × List Int) (b : Int) (h : st.2.length < 64) : (eat st b).2.length = (st.2.length + 1) % 64 := by
  unfold eat
  split
  · rename_i h1; rw [h1]; rfl
  · simp; omega
theorem absorb_len (st : List Int × List Int) (l : List Int) (h : st.2.length < 64) : (absorb st l).2.length = (st.2.length + l.length) % 64 := by
  induction l generalizing st with
  | nil => show st.2.length = _; simp; omega
  | cons b l ih =>
    show (absorb (eat st b) l).2.length = _
    rw [ih _ (by rw [eat_len st b h]; omega), eat_len st b h]
    simp only [List.length_cons]; omega
/-- How many noughts fill up to 56. -/
def padZ (n : Nat) : Nat := (120 - n % 64) % 64
theorem padZ_of {n k : Nat} (h : (n + k) % 64 = 56) (hm : ∀ j, j < k → (n + j) % 64 ≠ 56) : k = padZ n := by
  unfold padZ
  have hz : (n + (120 - n % 64) % 64) % 64 = 56 := by omega
  rcases Nat.lt_trichotomy k ((120 - n % 64) % 64) with hk | hk | hk
  · omega
  · exact hk
  · exact absurd hz (hm _ hk)
theorem absorb_rep (st : List Int × List Int) (k : Nat) : absorb (absorb st ([128] ++ List.replicate k 0)) [0] = absorb st ([128] ++ List.replicate (k + 1) 0) := by
  rw [← absorb_append, List.append_assoc, List.replicate_succ']
theorem u8s_set (l : List Int) (k : Nat) (x : Int) : (u8s l).set k (.int .u8 x) = u8s (l.set k x) := by simp [u8s, List.map_set]
def be (n : Int) (k : Nat) : List Int := (List.range k).map (fun i => n / 2 ^ (56 - 8 * i) % 256)
theorem be_succ (n : Int) (k : Nat) : be n (k + 1) = be n k ++ [n / 2 ^ (56 - 8 * k) % 256] := by simp [be, List.range_succ]
theorem be_len (n : Int) (k : Nat) : (be n k).length = k := by simp [be]
theorem be_byte (n : Int) (k : Nat) : ∀ x ∈ be n k, 0 ≤ x ∧ x ≤ 255 := by
  intro x hx
  simp only [be, List.mem_map] at hx
  obtain ⟨i, _, rfl⟩ := hx
  omega
/-- What is taken behind n bytes. -/
def padOf (n : Nat) : List Int := [128] ++ List.replicate (padZ (n + 1)) 0 ++ be ((n : Int) * 8) 8
def four (x : Int) : List Int := [x / 16777216, x / 65536 % 256, x / 256 % 256, x % 256]
def flat (ws : List Int) : List Int := (ws.map four).flatten
theorem flat_succ {l : List Int} {k : Nat} {x : Int} (h : l[k]? = some x) : flat (l.take (k + 1)) = flat (l.take k) ++ four x := by
  unfold flat
  rw [List.take_add_one, h]; simp
theorem index_arr {P : Program} (t e : TypeId) (n : Nat) (cs : Array Value) (k : Nat) (v : Value) (w : World) (h : P.underlying t = some (.array n e)) (he : P.plainKey e = true) (hs : (sizeOf e).run P w = .ok 1 w) (hk : k < n) (hv : cs[k]? = some v) :
    (Instr.index t (.agg cs) (.int .i64 (k : Int))).run P w = .ok v w := by
  have hn : 0 ≤ (k : Int) ∧ (k : Int) < (n : Int) := by omega
  have hp := run_part_plain (P := P) (w := w) he hv
  unfold part at hp
  simp [Instr.index, part, run_underlying h, asIntOf, hn, go_sem, hs, hk]
  simpa [go_sem, hs] using hp
theorem bytesI_strOfNums (l : List Int) (h : ∀ x ∈ l, 0 ≤ x ∧ x ≤ 255) : bytesI (strOfNums l) = l := by
  unfold bytesI strOfNums
  simp only [List.map_map]
  induction l with
  | nil => rfl
  | cons a l ih =>
    simp only [List.map_cons]
    rw [ih (fun x hx => h x (List.mem_cons_of_mem _ hx))]
    have := h a (by simp)
    congr 1
    simp
    omega
def initW : List Int := [1779033703, 3144134277, 1013904242, 2773480762, 1359893119, 2600822924, 528734635, 1541459225]
def zeroC : List Value := hcells (List.replicate 8 0) (List.replicate 64 0) 0 0
theorem zeroC_len : zeroC.length = 74 := by decide
theorem init_cells : ((((((((zeroC.set 0 (.int .u32 1779033703)).set 1 (.int .u32 3144134277)).set 2 (.int .u32 1013904242)).set 3 (.int .u32 2773480762)).set 4 (.int .u32 1359893119)).set 5 (.int .u32 2600822924)).set 6 (.int .u32 528734635)).set 7 (.int .u32 1541459225)) = hcells initW (List.replicate 64 0) 0 0 := by rfl
theorem info_a32 : (Tryd.prog.info? 133).map (·.size) = some 32 := by kernel_rfl
theorem plain_u32 : Tryd.prog.plainKey 114 = true := by kernel_rfl
theorem plain_u8 : Tryd.prog.plainKey 5 = true := by kernel_rfl
theorem info_u32 : (Tryd.prog.info? 114).map (·.size) = some 1 := by kernel_rfl
theorem size_u32 (W : World) : (sizeOf 114).run Tryd.prog W = .ok 1 W := by
  have h := info_u32
  cases hq : Tryd.prog.info? 114 with
  | none => rw [hq] at h; cases h
  | some i => rw [hq] at h; simp [sizeOf, typeInfo, hq]; simpa using h
end Go.Proofs.YtflhniobbdanjaaDoor
namespace Go.Proofs.YtflhniobbdanjaaDoor
set_option linter.unusedSimpArgs false
open Go.RowKit
set_option linter.unusedVariables false
set_option linter.unnecessarySimpa false
def catB (xs : List ByteArray) : List Int := (xs.map bytesI).flatten
theorem catB_succ {xs : List ByteArray} {k : Nat} {x : ByteArray} (h : xs[k]? = some x) : catB (xs.take (k + 1)) = catB (xs.take k) ++ bytesI x := by
  unfold catB
  rw [List.take_add_one, h]; simp
theorem catB_take (xs : List ByteArray) (k : Nat) : (catB (xs.take k)).length ≤ (catB xs).length := by
  have h : catB xs = catB (xs.take k) ++ catB (xs.drop k) := by
    unfold catB
    rw [← List.flatten_append, ← List.map_append, List.take_append_drop]
  rw [h, List.length_append]; omega
theorem eat_ok {st : List Int × List Int} (h : st.1.length = 8) (hu : ∀ x ∈ st.1, isU32 x) (b : Int) : (eat st b).1.length = 8 ∧ ∀ x ∈ (eat st b).1, isU32 x := by
  unfold eat
  split
  · exact ⟨mixed_len h, mixed_u32 h⟩
  · exact ⟨h, hu⟩
theorem absorb_ok {st : List Int × List Int} (h : st.1.length = 8) (hu : ∀ x ∈ st.1, isU32 x) (l : List Int) : (absorb st l).1.length = 8 ∧ ∀ x ∈ (absorb st l).1, isU32 x := by
  induction l generalizing st with
  | nil => exact ⟨h, hu⟩
  | cons b l ih => exact ih (eat_ok h hu b).1 (eat_ok h hu b).2
theorem flat_len (ws : List Int) : (flat ws).length = 4 * ws.length := by
  induction ws with
  | nil => rfl
  | cons a ws ih => unfold flat at *; rw [List.map_cons, List.flatten_cons, List.length_append, ih]; simp [four]; omega
theorem flat_byte {ws : List Int} (h : ∀ x ∈ ws, isU32 x) : ∀ x ∈ flat ws, 0 ≤ x ∧ x ≤ 255 := by
  intro x hx
  simp only [flat, List.mem_flatten, List.mem_map] at hx
  obtain ⟨l, ⟨a, ha, rfl⟩, hx⟩ := hx
  obtain ⟨h0, h1⟩ := h a ha
  simp only [four, List.mem_cons, List.not_mem_nil, or_false] at hx
  rcases hx with rfl | rfl | rfl | rfl <;> omega
theorem initW_len : initW.length = 8 := rfl
theorem initW_u32 : ∀ x ∈ initW, isU32 x := by
  intro x hx
  simp only [initW, List.mem_cons, List.not_mem_nil, or_false] at hx
  unfold isU32
  omega
/-- The sum of bytes, as bytes. -/
def digest (l : List Int) : List Int := flat (absorb (initW, []) (l ++ padOf l.length)).1
theorem digest_len (l : List Int) : (digest l).length = 32 := by
  unfold digest
  rw [flat_len, (absorb_ok initW_len initW_u32 _).1]
theorem digest_byte (l : List Int) : ∀ x ∈ digest l, 0 ≤ x ∧ x ≤ 255 := flat_byte (absorb_ok initW_len initW_u32 _).2
def strs (xs : List ByteArray) : List Value := xs.map Value.string
theorem strs_at {xs : List ByteArray} {k : Nat} {x : ByteArray} (h : xs[k]? = some x) : (strs xs)[k]? = some (.string x) := by simp [strs, h]
end Go.Proofs.YtflhniobbdanjaaDoor
namespace Go.Proofs.YtflhniobbdanjaaDoor
set_option linter.unusedSimpArgs false
open Go.RowKit
set_option linter.unusedVariables false
set_option linter.unnecessarySimpa false
def figsL : List Int := [48, 49, 50, 51, 52, 53, 54, 55, 56, 57, 97, 98, 99, 100, 101, 102]
def fig (i : Int) : Int := figsL.getD i.toNat 0
def figsS : ByteArray := ⟨#[48, 49, 50, 51, 52, 53, 54, 55, 56, 57, 97, 98, 99, 100, 101, 102]⟩
theorem fig_fin : ∀ j : Fin 16, (((figsS[j.val]'j.isLt).toNat : Nat) : Int) = fig (j.val : Int) := by decide
theorem fig_byte (i : Int) : 0 ≤ fig i ∧ fig i ≤ 255 := by
  unfold fig
  cases h : figsL[i.toNat]? with
  | none => simp [List.getD, h]
  | some x =>
    rw [getD_of h]
    have : x ∈ figsL := List.mem_of_getElem? h
    simp only [figsL, List.mem_cons, List.not_mem_nil, or_false] at this
    omega
theorem and15 (b : Int) (h0 : 0 ≤ b) (h1 : b ≤ 255) : bits .and .u8 b 15 = b % 16 := by
  have key : ∀ j : Fin 256, bits .and .u8 (j.val : Int) 15 = (j.val : Int) % 16 := by decide +kernel
  obtain ⟨j, rfl⟩ := Int.eq_ofNat_of_zero_le h0
  exact key ⟨j, by omega⟩
def two (b : Int) : List Int := [fig (b / 16), fig (b % 16)]
def hexL (l : List Int) : List Int := (l.map two).flatten
theorem hex_succ {l : List Int} {k : Nat} {x : Int} (h : l[k]? = some x) : hexL (l.take (k + 1)) = hexL (l.take k) ++ two x := by
  unfold hexL
  rw [List.take_add_one, h]; simp
theorem hex_len (l : List Int) : (hexL l).length = 2 * l.length := by
  induction l with
  | nil => rfl
  | cons a l ih => unfold hexL at *; rw [List.map_cons, List.flatten_cons, List.length_append, ih]; simp [two]; omega
theorem hex_byte (l : List Int) : ∀ x ∈ hexL l, 0 ≤ x ∧ x ≤ 255 := by
  intro x hx
  simp only [hexL, List.mem_flatten, List.mem_map] at hx
  obtain ⟨m, ⟨a, ha, rfl⟩, hx⟩ := hx
  simp only [two, List.mem_cons, List.not_mem_nil, or_false] at hx
  rcases hx with rfl | rfl
  · exact fig_byte _
  · exact fig_byte _
theorem two_cells (w : World) (t g : Nat) (x y : Value) (hg : g = w.heap.size) : ∀ j u, ([x, y] : List Value)[j]? = some u → (w.alloc (.cells #[x, y] t)).cell? ((⟨g, 0, none⟩ : Addr).add j) = some u :=
  fun j u hu => by rw [add_zero_block]; exact (Blk.newAt w t g [x, y] hg).cell hu
theorem fig_at (i : Int) (h0 : 0 ≤ i) (h1 : i < 16) (W : World) : (Instr.index 9 (.string ⟨#[48, 49, 50, 51, 52, 53, 54, 55, 56, 57, 97, 98, 99, 100, 101, 102]⟩) (.int .u8 i)).run Tryd.prog W = .ok (.int .u8 (fig i)) W := by
  rw [run_index_string W 9 _ .u8 i Tryd.underlying9]
  have hs : (⟨#[48, 49, 50, 51, 52, 53, 54, 55, 56, 57, 97, 98, 99, 100, 101, 102]⟩ : ByteArray).size = 16 := rfl
  rw [dif_pos ⟨h0, by rw [hs]; omega⟩]
  obtain ⟨j, rfl⟩ := Int.eq_ofNat_of_zero_le h0
  have := fig_fin ⟨j, by omega⟩
  rw [← this]
  rfl
theorem str_at (s : ByteArray) (k : Nat) (x : Int) (hx : (bytesI s)[k]? = some x) (W : World) : (Instr.index 9 (.string s) (.int .i64 (k : Int))).run Tryd.prog W = .ok (.int .u8 x) W := by
  have hl := (List.getElem?_eq_some_iff.1 hx).1
  rw [bytesI_len] at hl
  rw [run_index_string W 9 s .i64 (k : Int) Tryd.underlying9, dif_pos ⟨by omega, by omega⟩]
  have h2 := (List.getElem?_eq_some_iff.1 hx).2
  rw [← h2]
  simp [bytesI]
  rfl
theorem conv_own {w : World} {base g n cap : Nat} {xs : List Int} (h : w.ownsRow base 5 1 (.slice (some ⟨g, 0, none⟩) n cap) n (u8s xs)) : (convert 30 9 (.slice (some ⟨g, 0, none⟩) n cap)).run Tryd.prog w = .ok (.string (strOfNums xs)) w := by
  have hl : xs.length = n := by have := h.1; rw [u8s_len] at this; omega
  refine run_convert_bytes_arg (P := Tryd.prog) w 30 5 Tryd.underlying30 Tryd.underlying5 g 0 n cap xs hl (fun i hi => ?_) 9 Tryd.underlying9
  obtain ⟨x, hx⟩ := some_at hl hi
  rw [getD_of hx, Nat.zero_add]
  exact (h.cellAt i (by omega)).trans (u8s_at hx)
theorem own_empty (w : World) (e : TypeId) (B E : Nat) (hE : w.heap.size = E) (hB : B ≤ E) : (w.alloc (.cells #[] e)).ownsRow B e 1 (.slice (some ⟨E, 0, none⟩) 0 0) 0 [] := by
  subst hE
  exact ⟨rfl, .inr ⟨w.heap.size, 0, #[], rfl, hB, heap_alloc_new w _, by omega, by unfold maxLen; omega, rfl, rfl⟩⟩
theorem info_u8z : (Tryd.prog.info? 5).map (fun i => (i.zero, i.size, i.bytes)) = some (some (.int .u8 0), 1, 1) := by kernel_rfl
end Go.Proofs.YtflhniobbdanjaaDoor
namespace Go.Proofs.YtflhniobbdanjaaDoor
set_option linter.unusedSimpArgs false
open Go.RowKit
set_option linter.unusedVariables false
set_option linter.unnecessarySimpa false
theorem setV_take {l s : List Value} {k : Nat} {x : Value} (ht : l.take k = s) (hk : k < l.length) : (l.set k x).take (k + 1) = s ++ [x] := by
  rw [List.take_add_one, List.getElem?_set_self hk, List.take_set_of_le (Nat.le_refl _), ht]; rfl
theorem takeV_at {l s : List Value} {k j : Nat} {x : Value} (ht : l.take k = s) (hj : j < k) (hx : s[j]? = some x) : l[j]? = some x := by
  subst ht
  rwa [List.getElem?_take, if_pos hj] at hx
theorem own_of_blk {W : World} {g e base n : Nat} {cs : List Value} (h : Blk W g e cs) (hB : base ≤ g) (hl : cs.length = n) (hn : n ≤ maxLen) : W.ownsRow base e 1 (.slice (some ⟨g, 0, none⟩) n n) n cs :=
  ⟨by omega, .inr ⟨g, n, cs.toArray, rfl, hB, h, Nat.le_refl _, hn, by simp [hl], by simp [← hl]⟩⟩
/-- The call returns v, and has drawn at most. -/
def RetD (v : Value) (w : World) (e : Ending) (w' : World) : Prop := e = .returned v ∧ w' = w.drew
theorem one_cells (w : World) (t g : Nat) (x : Value) (hg : g = w.heap.size) : ∀ j u, ([x] : List Value)[j]? = some u → (w.alloc (.cells #[x] t)).cell? ((⟨g, 0, none⟩ : Addr).add j) = some u :=
  fun j u hu => by rw [add_zero_block]; exact (Blk.newAt w t g [x] hg).cell hu
end Go.Proofs.YtflhniobbdanjaaDoor
