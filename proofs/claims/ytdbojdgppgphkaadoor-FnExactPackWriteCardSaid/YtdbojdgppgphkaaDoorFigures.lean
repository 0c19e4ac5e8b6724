/- The contracts of writing bytes in figures, both sides. Conditions: each contract's own. -/
import Derived.Test.YtdbojdgppgphkaaDoorHashOf
namespace Go.Proofs.YtdbojdgppgphkaaDoor
set_option linter.unusedSimpArgs false
open Go.RowKit
set_option linter.unusedVariables false
set_option linter.unnecessarySimpa false
def figsL : List Int := [48, 49, 50, 51, 52, 53, 54, 55, 56, 57, 97, 98, 99, 100, 101, 102]
def fig (i : Int) : Int := figsL.getD i.toNat 0
def figsS : ByteArray := ⟨#[48, 49, 50, 51, 52, 53, 54, 55, 56, 57, 97, 98, 99, 100, 101, 102]⟩
theorem fig_fin : ∀ j : Fin 16, (((figsS[j.val]'j.isLt).toNat : Nat) : Int) = fig (j.val : Int) := by decide
theorem fig_byte (i : Int) : 0 ≤ fig i ∧ fig i ≤ 255 := by
  unfold fig
  cases h : figsL[i.toNat]? with
  | none => simp [List.getD, h]
  | some x =>
    rw [getD_of h]
    have : x ∈ figsL := List.mem_of_getElem? h
    simp only [figsL, List.mem_cons, List.not_mem_nil, or_false] at this
    omega
theorem and15 (b : Int) (h0 : 0 ≤ b) (h1 : b ≤ 255) : bits .and .u8 b 15 = b % 16 := by
  have key : ∀ j : Fin 256, bits .and .u8 (j.val : Int) 15 = (j.val : Int) % 16 := by decide +kernel
  obtain ⟨j, rfl⟩ := Int.eq_ofNat_of_zero_le h0
  exact key ⟨j, by omega⟩
def two (b : Int) : List Int := [fig (b / 16), fig (b % 16)]
def hexL (l : List Int) : List Int := (l.map two).flatten
theorem hex_succ {l : List Int} {k : Nat} {x : Int} (h : l[k]? = some x) : hexL (l.take (k + 1)) = hexL (l.take k) ++ two x := by
  unfold hexL
  rw [List.take_add_one, h]; simp
theorem hex_len (l : List Int) : (hexL l).length = 2 * l.length := by
  induction l with
  | nil => rfl
  | cons a l ih => unfold hexL at *; rw [List.map_cons, List.flatten_cons, List.length_append, ih]; simp [two]; omega
theorem hex_byte (l : List Int) : ∀ x ∈ hexL l, 0 ≤ x ∧ x ≤ 255 := by
  intro x hx
  simp only [hexL, List.mem_flatten, List.mem_map] at hx
  obtain ⟨m, ⟨a, ha, rfl⟩, hx⟩ := hx
  simp only [two, List.mem_cons, List.not_mem_nil, or_false] at hx
  rcases hx with rfl | rfl
  · exact fig_byte _
  · exact fig_byte _
theorem two_cells (w : World) (t g : Nat) (x y : Value) (hg : g = w.heap.size) : ∀ j u, ([x, y] : List Value)[j]? = some u → (w.alloc (.cells #[x, y] t)).cell? ((⟨g, 0, none⟩ : Addr).add j) = some u :=
  fun j u hu => by rw [add_zero_block]; exact (Blk.newAt w t g [x, y] hg).cell hu
theorem fig_at (i : Int) (h0 : 0 ≤ i) (h1 : i < 16) (W : World) : (Instr.index 9 (.string ⟨#[48, 49, 50, 51, 52, 53, 54, 55, 56, 57, 97, 98, 99, 100, 101, 102]⟩) (.int .u8 i)).run Tryd.prog W = .ok (.int .u8 (fig i)) W := by
  rw [run_index_string W 9 _ .u8 i Tryd.underlying9]
  have hs : (⟨#[48, 49, 50, 51, 52, 53, 54, 55, 56, 57, 97, 98, 99, 100, 101, 102]⟩ : ByteArray).size = 16 := rfl
  rw [dif_pos ⟨h0, by rw [hs]; omega⟩]
  obtain ⟨j, rfl⟩ := Int.eq_ofNat_of_zero_le h0
  have := fig_fin ⟨j, by omega⟩
  rw [← this]
  rfl
theorem str_at (s : ByteArray) (k : Nat) (x : Int) (hx : (bytesI s)[k]? = some x) (W : World) : (Instr.index 9 (.string s) (.int .i64 (k : Int))).run Tryd.prog W = .ok (.int .u8 x) W := by
  have hl := (List.getElem?_eq_some_iff.1 hx).1
  rw [bytesI_len] at hl
  rw [run_index_string W 9 s .i64 (k : Int) Tryd.underlying9, dif_pos ⟨by omega, by omega⟩]
  have h2 := (List.getElem?_eq_some_iff.1 hx).2
  rw [← h2]
  simp [bytesI]
  rfl
theorem conv_own {w : World} {base g n cap : Nat} {xs : List Int} (h : w.ownsRow base 5 1 (.slice (some ⟨g, 0, none⟩) n cap) n (u8s xs)) : (convert 24 9 (.slice (some ⟨g, 0, none⟩) n cap)).run Tryd.prog w = .ok (.string (strOfNums xs)) w := by
  have hl : xs.length = n := by have := h.1; rw [u8s_len] at this; omega
  refine run_convert_bytes_arg (P := Tryd.prog) w 24 5 Tryd.underlying24 Tryd.underlying5 g 0 n cap xs hl (fun i hi => ?_) 9 Tryd.underlying9
  obtain ⟨x, hx⟩ := some_at hl hi
  rw [getD_of hx, Nat.zero_add]
  exact (h.cellAt i (by omega)).trans (u8s_at hx)
theorem own_empty (w : World) (e : TypeId) (B E : Nat) (hE : w.heap.size = E) (hB : B ≤ E) : (w.alloc (.cells #[] e)).ownsRow B e 1 (.slice (some ⟨E, 0, none⟩) 0 0) 0 [] := by
  subst hE
  exact ⟨rfl, .inr ⟨w.heap.size, 0, #[], rfl, hB, heap_alloc_new w _, by omega, by unfold maxLen; omega, rfl, rfl⟩⟩
theorem info_u8z : (Tryd.prog.info? 5).map (fun i => (i.zero, i.size, i.bytes)) = some (some (.int .u8 0), 1, 1) := by kernel_rfl
set_option maxHeartbeats 1600000 in
set_option maxRecDepth 100000 in
theorem hashFigures_c (l : List Int) (hl : l.length = 32) (hb : ∀ x ∈ l, 0 ≤ x ∧ x ≤ 255) (w : World) : Calls Tryd.prog 91 #[.agg (u8s l).toArray] w (RetB (.string (strOfNums (hexL l))) w) := by
  obtain ⟨i0, hi0, hz0, hz1, hz2⟩ := info_parts info_u8z
  have HL := Lib.hid hl
  have HB := Lib.hid hb
  obtain ⟨D, hD⟩ : ∃ D, D = u8s l := ⟨_, rfl⟩
  have hDl : D.length = 32 := by rw [hD, u8s_len, hl]
  have HD := Lib.hid hD
  rw [← hD]
  clear hl hb hD
  go_enter Tryd.func91, Tryd.ntmps91
  go_wp2_with (at_make; refine wpList_make_own _ rfl _ _ 24 rfl (w.heap.size + 1) 5 i0 _ 1 Tryd.underlying24 hi0 hz0 hz1 .i64 .i64 64 64 rfl rfl rfl ?b2 ?b3 ?b4 ?_)
  case b2 => rw [hz2]; omega
  case b3 => unfold maxLen; omega
  case b4 => simp
  intro w0 hown0 hg0
  have hD32 : (Tryd.prog.info? 125).map (·.size) = some D.toArray.size := by
    rw [List.size_toArray, hDl]; exact info_a32
  have B0 := Lib.hid ((Blk.new w 125 D).other hg0 (by simp))
  have O0 := Lib.hid hown0
  have b0 : Below w.heap.size w w0 := ((Below.refl _ _).alloc (Nat.le_refl _) _).grown hg0 (by simp) (by simp)
  clear hown0 hg0
  go_wp2_with (refine wpList_load_row rfl 125 _ rfl w.heap.size rfl 125 D.toArray (0, 0) _ B0.out Tryd.underlying125 rfl hD32 ?_)
  have hs0 : w.heap.size + 1 < w0.heap.size := (O0.out.lt (w.heap.size + 1) rfl).2
  go_loopg [8, 3] 32 (fun gk i v wr => ∃ (k : Nat), gk + k = 32 ∧ i = .int .i64 k ∧ Hid (wr.ownsRow (w.heap.size + 1) 5 1 v (2 * k) (u8s (hexL (l.take k)))) ∧ Hid (Below w.heap.size w wr) ∧ w.heap.size + 1 < wr.heap.size)
  case atStart => exact ⟨0, rfl, rfl, O0, b0, hs0⟩
  case round =>
    obtain ⟨k, hgk, rfl, HO, HBe, hsz⟩ := hrel
    have hob : ∀ b, u3.ownBlock = some b → w.heap.size + 1 ≤ b := fun b hb => (HO.out.lt b hb).1
    have HOB := Lib.hid hob
    clear hob
    by_cases hk : k < 32
    · obtain ⟨gk, rfl⟩ : ∃ m, gk = m + 1 := ⟨gk - 1, by omega⟩
      obtain ⟨x, hx⟩ := some_at HL.out hk
      obtain ⟨x0, x1⟩ := HB.out x (List.mem_of_getElem? hx)
      have hix := fun W => index_arr (P := Tryd.prog) 125 5 32 D.toArray k (.int .u8 x) W Tryd.underlying125 plain_u8 (size_u8 W) hk (by
        have := u8s_at hx
        rw [← HD.out] at this
        simpa using this)
      have h15 := and15 x x0 x1
      have f1 := fig_at (x / 16) (by omega) (by omega)
      have f2 := fig_at (x % 16) (by omega) (by omega)
      have HX := Lib.hid (hex_succ hx)
      clear hx
      go_wp2
      go_region_law (first
        | (refine step_append_lies _ (by rfl) _ _ _ (by rfl) (w.heap.size + 1) 5 i0 _ 1 1 Tryd.underlying24 hi0 hz0 hz1 hz2 rfl (by omega) u3 (2 * k) (u8s (hexL (l.take k))) (by rfl) (HO.out.drew.alloc _)
             ⟨wr.heap.size, 0, none⟩ 2 2 [.int .u8 (fig (x / 16)), .int .u8 (fig (x % 16))] (by rfl) (by rfl) (two_cells _ _ _ _ _ rfl) (by simp [Value.oneCell']) (by omega) (by unfold maxLen; omega) (by omega) (by simp; omega) _ rfl ?_; intro gg cap w5 hown5 hgr5 hat5 hlt5; have O5 := Lib.hid hown5; have B5 := Lib.hid (Below.grown (HBe.out.drew.alloc (by simp; omega) _) hgr5 (by simp; omega) (fun b e => by have := HOB.out _ e; omega)); have hs5 := hgr5.size; simp at hs5; clear hown5 hgr5 hat5 hlt5))
      all_goals
        go_wp2
        go_roundg gk
        case measure => omega
        case rel =>
          go_light
          refine ⟨k + 1, by omega, by go_num, ?_, B5, by omega⟩
          have := O5.out
          show w5.ownsRow _ _ _ _ (2 * k + 2) _
          rw [HX.out]
          simpa [u8s, two] using this
    · obtain rfl : k = 32 := by omega
      obtain ⟨gg, cap, rfl⟩ : ∃ gg cap, u3 = .slice (some ⟨gg, 0, none⟩) 64 cap := by
        rcases HO.out.2 with ⟨_, h0⟩ | ⟨gg, cap, cur, hv, _⟩
        · omega
        · exact ⟨gg, cap, hv⟩
      have ho := HO.out
      rw [List.take_of_length_le (by rw [HL.out]; omega)] at ho
      have hconv := conv_own ho
      clear ho
      go_wp2
      go_returns
      exact ⟨rfl, HBe.out⟩
set_option maxHeartbeats 1600000 in
set_option maxRecDepth 100000 in
theorem hex_c (s : ByteArray) (hs0 : 0 < s.size) (hs : s.size ≤ 1000000) (w : World) : Calls Tryd.prog 52 #[.string s] w (RetB (.string (strOfNums (hexL (bytesI s)))) w) := by
  obtain ⟨i0, hi0, hz0, hz1, hz2⟩ := info_parts info_u8z
  go_enter Tryd.func52, Tryd.ntmps52
  go_wp2
  go_loopw [4, 3] (fun i v wr => ∃ (k : Nat), k ≤ s.size ∧ i = .int .i64 k ∧ Hid (wr.ownsRow w.heap.size 5 1 v (2 * k) (u8s (hexL ((bytesI s).take k)))) ∧ Hid (Below w.heap.size w wr)) (fun i _ _ => s.size - (intOf i).toNat)
  case atStart => exact ⟨0, by omega, rfl, own_empty w 5 w.heap.size w.heap.size rfl (Nat.le_refl _), Lib.hid (by go_grown)⟩
  case round =>
    obtain ⟨k, hk, rfl, HO, HBe⟩ := hrel
    have hob : ∀ b, u3.ownBlock = some b → w.heap.size ≤ b := fun b hb => (HO.out.lt b hb).1
    have HOB := Lib.hid hob
    have hbs := HBe.out.size
    clear hob
    by_cases hlt : k < s.size
    · obtain ⟨x, hx⟩ := some_at (bytesI_len s) hlt
      obtain ⟨x0, x1⟩ := bytesI_byte s x (List.mem_of_getElem? hx)
      have q1 : IntKind.u8.wrap (x.tdiv 16) = x / 16 := by rw [IntKind.wrap_u8, Int.tdiv_eq_ediv_of_nonneg x0]; omega
      have q2 : x.tmod 16 = x % 16 := Int.tmod_eq_emod_of_nonneg x0
      have hix := fun W => str_at s k x hx W
      have f1 := fig_at (x / 16) (by omega) (by omega)
      have f2 := fig_at (x % 16) (by omega) (by omega)
      have HX := Lib.hid (hex_succ hx)
      clear hx
      go_wp2
      go_region_law (first
        | (refine step_append_lies _ (by rfl) _ _ _ (by rfl) w.heap.size 5 i0 _ 1 1 Tryd.underlying24 hi0 hz0 hz1 hz2 rfl (by omega) u3 (2 * k) (u8s (hexL ((bytesI s).take k))) (by rfl) (HO.out.drew.alloc _)
             ⟨wr.heap.size, 0, none⟩ 2 2 [.int .u8 (fig (x / 16)), .int .u8 (fig (x % 16))] (by rfl) (by rfl) (two_cells _ _ _ _ _ rfl) (by simp [Value.oneCell']) (by omega) (by unfold maxLen; omega) (by omega) (by simp; omega) _ rfl ?_; intro gg cap w5 hown5 hgr5 hat5 hlt5; have O5 := Lib.hid hown5; have B5 := Lib.hid (Below.grown (HBe.out.drew.alloc (by simp; omega) _) hgr5 (by simp; omega) (fun b e => by have := HOB.out _ e; omega)); have hs5 := hgr5.size; simp at hs5; clear hown5 hgr5 hat5 hlt5))
      all_goals
        go_wp2
        go_roundw
        case measure => simp [intOf]; omega
        case rel =>
          go_light
          refine ⟨k + 1, by omega, by go_num, ?_, B5⟩
          have := O5.out
          show w5.ownsRow _ _ _ _ (2 * k + 2) _
          rw [HX.out]
          simpa [u8s, two] using this
    · obtain rfl : k = s.size := by omega
      obtain ⟨gg, cap, rfl⟩ : ∃ gg cap, u3 = .slice (some ⟨gg, 0, none⟩) (2 * s.size) cap := by
        rcases HO.out.2 with ⟨_, h0⟩ | ⟨gg, cap, cur, hv, _⟩
        · omega
        · exact ⟨gg, cap, hv⟩
      have ho := HO.out
      rw [List.take_of_length_le (by rw [bytesI_len]; exact Nat.le_refl _)] at ho
      have hconv := conv_own ho
      clear ho
      go_wp2
      go_returns
      exact ⟨rfl, HBe.out⟩
end Go.Proofs.YtdbojdgppgphkaaDoor
