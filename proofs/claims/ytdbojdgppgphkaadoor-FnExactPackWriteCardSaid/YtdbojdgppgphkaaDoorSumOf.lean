/- The contract of the reference's sum of a text. Conditions: each contract's own. -/
import Derived.Test.YtdbojdgppgphkaaDoorBlock
import Derived.Test.YtdbojdgppgphkaaDoorPadded
import Derived.Deep.DrawnRows
namespace Go.Proofs.YtdbojdgppgphkaaDoor
set_option linter.unusedSimpArgs false
open Go.RowKit
set_option linter.unusedVariables false
set_option linter.unnecessarySimpa false
/-- The words behind so many blocks. -/
def hwAt (L : List Int) (k : Nat) : List Int := (absorb (initW, []) (L.take (64 * k))).1
def blkAt (L : List Int) (k : Nat) : List Int := (L.drop (64 * k)).take 64
theorem blkAt_len {L : List Int} {k : Nat} (h : 64 * (k + 1) ≤ L.length) : (blkAt L k).length = 64 := by
  unfold blkAt
  rw [List.length_take, List.length_drop]; omega
theorem absorb_blocks (L : List Int) (k : Nat) (h : 64 * k ≤ L.length) : absorb (initW, []) (L.take (64 * k)) = (hwAt L k, []) := by
  have h2 : (absorb (initW, []) (L.take (64 * k))).2 = [] := by
    have := absorb_len (initW, []) (L.take (64 * k)) (by simp)
    rw [List.length_take] at this
    apply List.eq_nil_of_length_eq_zero
    rw [this]; simp; omega
  exact Prod.ext rfl h2
theorem hwAt_succ (L : List Int) (k : Nat) (h : 64 * (k + 1) ≤ L.length) : hwAt L (k + 1) = mixed (hwAt L k) (blkAt L k) := by
  have e : L.take (64 * (k + 1)) = L.take (64 * k) ++ blkAt L k := by
    unfold blkAt
    rw [show 64 * (k + 1) = 64 * k + 64 from by omega, List.take_add]
  show (absorb (initW, []) (L.take (64 * (k + 1)))).1 = _
  rw [e, absorb_append, absorb_blocks L k (by omega), absorb_full _ [] _ (by simp [blkAt_len h]) (by simp)]
  rfl
theorem hwAt_ok (L : List Int) (k : Nat) : (hwAt L k).length = 8 ∧ ∀ x ∈ hwAt L k, isU32 x := absorb_ok initW_len initW_u32 _
theorem hwAt_all {L : List Int} {M : Nat} (h : L.length = 64 * M) : hwAt L M = (absorb (initW, []) L).1 := by
  unfold hwAt
  rw [← h, List.take_length]
theorem pad_len (s : ByteArray) : ∃ M, (bytesI s ++ padOf s.size).length = 64 * M ∧ 64 * M ≤ s.size + 128 := by
  have h : (bytesI s ++ padOf s.size).length = s.size + 1 + padZ (s.size + 1) + 8 := by
    unfold padOf
    simp [bytesI_len, be_len]; omega
  refine ⟨(s.size + 1 + padZ (s.size + 1) + 8) / 64, ?_, ?_⟩
  · rw [h]; unfold padZ; omega
  · unfold padZ; omega
theorem pad_byte (s : ByteArray) : ∀ x ∈ bytesI s ++ padOf s.size, 0 ≤ x ∧ x ≤ 255 := by
  intro x hx
  unfold padOf at hx
  simp only [List.mem_append] at hx
  rcases hx with hx | (hx | hx) | hx
  · exact bytesI_byte s x hx
  · simp at hx; omega
  · have := List.eq_of_mem_replicate hx; omega
  · exact be_byte _ _ x hx
theorem OwnZ.up {w w' : World} {base g n cap : Nat} {xs : List Value} (h : OwnZ w base g n cap xs) (hb : Below w.heap.size w w') : OwnZ w' base g n cap xs := by
  have hbk := hb.block g h.lt
  exact ⟨h.ge, h.le, h.len, by have := h.lt; have := hb.size; omega, fun j u hu => (World.cell?_of_block (w := w) (a := ⟨g, j, none⟩) hbk).trans (h.cells j u hu), fun j hj => by
    rw [World.cell?_of_block (w := w) (a := ⟨g, j, none⟩) hbk, World.frozen?_of_block (w := w) (a := ⟨g, j, none⟩) hbk]; exact h.room j hj⟩
theorem OwnZ.part {w : World} {base g n cap : Nat} {xs : List Value} (h : OwnZ w base g n cap xs) (o m : Nat) (hm : o + m ≤ n) : Rd w w.heap.size 1 (some ⟨g, o, none⟩) m ((xs.drop o).take m) :=
  ⟨by rw [List.length_take, List.length_drop, h.len]; omega, fun _ => ⟨g, o, rfl, h.lt, fun j u hu => by
    rw [List.getElem?_take] at hu
    split at hu
    · rw [List.getElem?_drop] at hu
      exact h.cells _ u hu
    · cases hu⟩⟩
theorem OwnZ.drew {w : World} {base g n cap : Nat} {xs : List Value} (h : OwnZ w base g n cap xs) : OwnZ w.drew base g n cap xs := ⟨h.ge, h.le, h.len, h.lt, h.cells, h.room⟩
theorem OwnZ.kept {w w' : World} {base g n cap : Nat} {xs : List Value} (h : OwnZ w base g n cap xs) {row : Option Nat} (hg : w.grownBy w' row) (hr : row ≠ some g) : OwnZ w' base g n cap xs := by
  have hbk := hg.block g h.lt (fun e => hr e.symm)
  exact ⟨h.ge, h.le, h.len, by have := h.lt; have := hg.size; omega, fun j u hu => (World.cell?_of_block (w := w) (a := ⟨g, j, none⟩) hbk).trans (h.cells j u hu), fun j hj => by
    rw [World.cell?_of_block (w := w) (a := ⟨g, j, none⟩) hbk, World.frozen?_of_block (w := w) (a := ⟨g, j, none⟩) hbk]; exact h.room j hj⟩
theorem u8s_part (L : List Int) (k : Nat) : ((u8s L).drop (64 * k)).take 64 = u8s (blkAt L k) := by simp [u8s, blkAt, List.map_take, List.map_drop]
theorem blkAt_byte {L : List Int} (h : ∀ x ∈ L, 0 ≤ x ∧ x ≤ 255) (k : Nat) : ∀ x ∈ blkAt L k, 0 ≤ x ∧ x ≤ 255 :=
  fun x hx => h x (List.mem_of_mem_drop (List.mem_of_mem_take hx))
theorem u32_top {x : Int} (h : isU32 x) : x / 16777216 % 256 = x / 16777216 := by unfold isU32 at h; omega
theorem four_cells (w : World) (t g : Nat) (x y z u : Value) (hg : g = w.heap.size) : ∀ j v, ([x, y, z, u] : List Value)[j]? = some v → (w.alloc (.cells #[x, y, z, u] t)).cell? ((⟨g, 0, none⟩ : Addr).add j) = some v :=
  fun j v hv => by rw [add_zero_block]; exact (Blk.newAt w t g [x, y, z, u] hg).cell hv
set_option maxHeartbeats 1600000 in
set_option maxRecDepth 100000 in
theorem sum1_c (s : ByteArray) (hs : s.size ≤ 1099511627776) (w : World) : Calls Tryd.prog 53 #[.string s] w (RetB (.string (strOfNums (digest (bytesI s)))) w) := by
  obtain ⟨i0, hi0, hz0, hz1, hz2⟩ := info_parts info_u8z
  obtain ⟨M, hM, hM2⟩ := pad_len s
  have HB := Lib.hid (pad_byte s)
  go_enter Tryd.func53, Tryd.ntmps53
  (go_wp2_with fail); (go_at_call 93; refine (padded_c s hs _).mono ?_; rintro e w1 ⟨g, c, rfl, hz, b1⟩; have H0 := Lib.hid (OwnZ.of_own (own_of_blk ((Blk.new w 130 (u32s initW)).up b1) (Nat.le_refl _) rfl (by unfold maxLen; omega)) (Nat.le_refl _) : OwnZ w1 w.heap.size w.heap.size 8 8 (u32s initW)); have B1 := Lib.hid (below_via (w := w) (by go_grown) b1); have hs1 := b1.size; have HZ := Lib.hid hz; clear b1 hz)
  simp at hs1
  have HD := Lib.hid (show digest (bytesI s) = flat (absorb (initW, []) (bytesI s ++ padOf s.size)).1 by rw [digest, bytesI_len])
  generalize hL : bytesI s ++ padOf s.size = L at *
  clear hL
  have HM := Lib.hid hM
  have hcL := HZ.out.le
  rw [hM] at HZ hcL
  generalize hN : 64 * M = N at *
  go_wp2_with fail
  go_loopg [5, 3] M (fun gk i v wr => ∃ (k gh ch : Nat), gk + k = M ∧ i = .int .i64 (64 * (k : Int)) ∧ v = .slice (some ⟨gh, 0, none⟩) 8 ch ∧ Hid (OwnZ wr w.heap.size gh 8 ch (u32s (hwAt L k))) ∧ Hid (OwnZ wr (w.heap.size + 1) g N c (u8s L)) ∧ Hid (Below w.heap.size w wr))
  case atStart => exact ⟨0, w.heap.size, 8, rfl, rfl, rfl, H0, by simpa using HZ, B1⟩
  case round =>
    obtain ⟨k, gh, ch, hgk, rfl, rfl, HH, HZ, HBe⟩ := hrel
    have hbs := HBe.out.size
    by_cases hk : k < M
    · obtain ⟨gk, rfl⟩ : ∃ m, gk = m + 1 := ⟨gk - 1, by omega⟩
      have i1 : (0 : Int) ≤ 64 * (k : Int) := by omega
      have i2 : 64 * (k : Int) + 64 ≤ (c : Int) := by omega
      have i3 : 64 * (k : Int) + 64 ≤ (N : Int) := by omega
      have HR := Lib.hid (u8s_part L k ▸ HZ.out.part (64 * k) 64 (by omega) : Rd wr wr.heap.size 1 (some ⟨g, 64 * k, none⟩) 64 (u8s (blkAt L k)))
      have HR2 := Lib.hid HH.out.rd
      have HS := Lib.hid (hwAt_succ L k (by rw [HM.out]; omega))
      have HU := Lib.hid (hwAt_ok L k).2
      (go_wp2_with fail); (go_at_call 94; refine (block_c _ _ ch (c - 64 * k) (hwAt L k) (blkAt L k) _ HR2.out HR.out HU.out (blkAt_byte HB.out k)).mono ?_; rintro e w2 ⟨A2, c2, rfl, o2, b2⟩; rw [← HS.out] at o2; obtain ⟨g2, rfl⟩ := own_some o2 (by omega); have O2 := Lib.hid (OwnZ.of_own o2 hbs); have Z2 := Lib.hid (HZ.out.up b2); have B2 := Lib.hid (below_via HBe.out b2); clear o2 b2)
      go_wp2
      go_roundg gk
      case measure => omega
      case rel =>
        go_light
        exact ⟨k + 1, g2, c2, by omega, by go_num, rfl, O2, Z2, B2⟩
    · obtain rfl : k = M := by omega
      have HW := Lib.hid (hwAt_all (HM.out.trans hN.symm))
      have HD2 := HD
      rw [← HW.out] at HD2
      have HOK := Lib.hid (hwAt_ok L k)
      generalize hwAt L k = H at *
      clear HD HM HZ HW HB
      have OE := Lib.hid (own_empty wr 5 wr.heap.size wr.heap.size rfl (Nat.le_refl _))
      have HH9 := Lib.hid (HH.out.alloc (.cells #[] 5))
      have HB9 := Lib.hid (HBe.out.alloc HBe.out.size (.cells #[] 5))
      have hgB : gh < wr.heap.size := HH.out.lt
      clear HH HBe
      go_wp2
      generalize hB9 : wr.heap.size = B9 at *
      go_loopg [7, 6] 8 (fun gk i v wr => ∃ (k : Nat), gk + k = 8 ∧ i = .int .i64 k ∧ Hid (wr.ownsRow B9 5 1 v (4 * k) (u8s (flat (H.take k)))) ∧ Hid (OwnZ wr w.heap.size gh 8 ch (u32s H)) ∧ Hid (Below w.heap.size w wr) ∧ B9 ≤ wr.heap.size)
      case atStart => exact ⟨0, rfl, rfl, OE, HH9, HB9, by simp; omega⟩
      case round =>
        obtain ⟨k, hgk, rfl, HO, HH, HBe, hz9⟩ := hrel
        have hob : ∀ b, u6.ownBlock = some b → B9 ≤ b := fun b hb => (HO.out.lt b hb).1
        have HOB := Lib.hid hob
        clear hob
        by_cases hk : k < 8
        · obtain ⟨gk, rfl⟩ : ∃ m, gk = m + 1 := ⟨gk - 1, by omega⟩
          obtain ⟨x, hx⟩ := some_at HOK.out.1 hk
          have UX := HOK.out.2 x (List.mem_of_getElem? hx)
          have ux0 := UX.1
          have ux1 := UX.2
          have cx := HH.out.cells k _ (u32s_at hx)
          have HX := Lib.hid (flat_succ hx)
          clear hx
          have q1 : IntKind.u8.wrap (x / 16777216) = x / 16777216 := by rw [IntKind.wrap_u8]; omega
          have q2 : IntKind.u8.wrap (x / 65536) = x / 65536 % 256 := by rw [IntKind.wrap_u8]
          have q3 : IntKind.u8.wrap (x / 256) = x / 256 % 256 := by rw [IntKind.wrap_u8]
          have q4 : IntKind.u8.wrap x = x % 256 := by rw [IntKind.wrap_u8]
          go_wp2
          go_region_held3 (fun w' => w'.cell? ⟨gh, k, none⟩ = some (.int .u32 x))
            (first | go_keep | (rw [hgr5.cell_far _ (by simp <;> omega) (fun e => by have := HOB.out gh e.symm; omega)]; assumption))
            ((refine step_append_lies _ (by rfl) _ _ _ (by rfl) B9 5 i0 _ 1 1 Tryd.underlying24 hi0 hz0 hz1 hz2 rfl (by omega) u6 (4 * k) (u8s (flat (H.take k))) (by rfl) (HO.out.drew.alloc _) ⟨wr.heap.size, 0, none⟩ 4 4 [.int .u8 (x / 16777216), .int .u8 (x / 65536 % 256), .int .u8 (x / 256 % 256), .int .u8 (x % 256)] (by rfl) (by rfl) (four_cells wr 5 wr.heap.size (.int .u8 (x / 16777216)) (.int .u8 (x / 65536 % 256)) (.int .u8 (x / 256 % 256)) (.int .u8 (x % 256)) rfl) (by simp [Value.oneCell']) (by omega) (by unfold maxLen; omega) (by omega) (by simp; omega) _ rfl ?_; intro gg capg w5 hown5 hgr5 hat5 hlt5))
          have hs5 := hgr5.size
          simp at hs5
          have O5 := Lib.hid hown5
          have H5 := Lib.hid (OwnZ.kept (HH.out.alloc (.cells #[.int .u8 (x / 16777216), .int .u8 (x / 65536 % 256), .int .u8 (x / 256 % 256), .int .u8 (x % 256)] 5)).drew hgr5 (fun e => by have := HOB.out gh e; omega))
          have B5 := Lib.hid (Below.grown (HBe.out.drew.alloc (by simp; omega) _) hgr5 (by simp; omega) (fun b e => by have := HOB.out _ e; omega))
          clear hown5 hgr5 hat5 hlt5
          go_wp2
          go_roundg gk
          case measure => omega
          case rel =>
            go_light
            refine ⟨k + 1, by omega, by go_num, ?_, H5, B5, by omega⟩
            have := O5.out
            show World.ownsRow _ _ _ _ _ (4 * k + 4) _
            rw [HX.out]
            simpa [u8s, four] using this
        · obtain rfl : k = 8 := by omega
          obtain ⟨gg, cap, rfl⟩ : ∃ gg cap, u6 = .slice (some ⟨gg, 0, none⟩) 32 cap := by
            rcases HO.out.2 with ⟨_, h0⟩ | ⟨gg, cap, cur, hv, _⟩
            · omega
            · exact ⟨gg, cap, hv⟩
          have ho := HO.out
          rw [List.take_of_length_le (by rw [HOK.out.1]; exact Nat.le_refl _), ← HD2.out] at ho
          have hconv := conv_own ho
          clear ho HO
          go_wp2
          go_returns
          exact ⟨rfl, HBe.out⟩
end Go.Proofs.YtdbojdgppgphkaaDoor
