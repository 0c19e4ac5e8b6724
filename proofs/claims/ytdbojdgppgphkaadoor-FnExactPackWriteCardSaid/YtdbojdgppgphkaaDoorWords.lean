/- The contracts of the reference's words of a block. Conditions: each contract's own. -/
import Derived.Test.YtdbojdgppgphkaaDoorFigures
namespace Go.Proofs.YtdbojdgppgphkaaDoor
set_option linter.unusedSimpArgs false
open Go.RowKit
set_option linter.unusedVariables false
set_option linter.unnecessarySimpa false
theorem setV_take {l s : List Value} {k : Nat} {x : Value} (ht : l.take k = s) (hk : k < l.length) : (l.set k x).take (k + 1) = s ++ [x] := by
  rw [List.take_add_one, List.getElem?_set_self hk, List.take_set_of_le (Nat.le_refl _), ht]; rfl
theorem takeV_at {l s : List Value} {k j : Nat} {x : Value} (ht : l.take k = s) (hj : j < k) (hx : s[j]? = some x) : l[j]? = some x := by
  subst ht
  rwa [List.getElem?_take, if_pos hj] at hx
theorem own_of_blk {W : World} {g e base n : Nat} {cs : List Value} (h : Blk W g e cs) (hB : base ≤ g) (hl : cs.length = n) (hn : n ≤ maxLen) : W.ownsRow base e 1 (.slice (some ⟨g, 0, none⟩) n n) n cs :=
  ⟨by omega, .inr ⟨g, n, cs.toArray, rfl, hB, h, Nat.le_refl _, hn, by simp [hl], by simp [← hl]⟩⟩
/-- The call returns v, and has drawn at most. -/
def RetD (v : Value) (w : World) (e : Ending) (w' : World) : Prop := e = .returned v ∧ w' = w.drew
theorem one_cells (w : World) (t g : Nat) (x : Value) (hg : g = w.heap.size) : ∀ j u, ([x] : List Value)[j]? = some u → (w.alloc (.cells #[x] t)).cell? ((⟨g, 0, none⟩ : Addr).add j) = some u :=
  fun j u hu => by rw [add_zero_block]; exact (Blk.newAt w t g [x] hg).cell hu
theorem turn_d (n : Nat) (m : Int) (hm : m = (n : Int)) (x : Int) (w : World) (hx : isU32 x) (hn : 1 ≤ n ∧ n ≤ 31) : Calls Tryd.prog 129 #[.int .u32 x, .int .i64 m] w (RetD (.int .u32 (rr n x)) w) := by
  subst hm
  obtain ⟨h0, h1⟩ := hx
  obtain ⟨h2, h3⟩ := hn
  go_enter Tryd.func129, Tryd.ntmps129
  go_wp2
  go_region
  go_wp2
  go_returns
  refine ⟨retv ?_, rfl⟩
  go_light
  show Value.int .u32 _ = Value.int .u32 _
  rw [or_comm_u32]
  rfl
theorem info_u32z : (Tryd.prog.info? 130).map (fun i => (i.zero, i.size, i.bytes)) = some (some (.int .u32 0), 1, 4) := by kernel_rfl
set_option maxHeartbeats 1600000 in
set_option maxRecDepth 100000 in
theorem words_c (A : Option Addr) (c : Nat) (bs : List Int) (w : World) (hr : Rd w w.heap.size 1 A 64 (u8s bs)) (hb : ∀ x ∈ bs, 0 ≤ x ∧ x ≤ 255) :
    Calls Tryd.prog 127 #[.slice A 64 c] w (RetOwn 130 1 64 (u32s (sched bs 64)) w) := by
  obtain ⟨i0, hi0, hz0, hz1, hz2⟩ := info_parts info_u32z
  obtain ⟨b, off, rfl, hbl, hc⟩ := hr.2 (by omega)
  have HL := Lib.hid (show bs.length = 64 by simpa [u8s] using hr.len1)
  have HB := Lib.hid hb
  have HC := Lib.hid hc
  clear hr hb hc
  go_enter Tryd.func127, Tryd.ntmps127
  go_wp2_with (at_make; refine wpList_make_own _ rfl _ _ 131 rfl w.heap.size 130 i0 _ 1 Tryd.underlying131 hi0 hz0 hz1 .i64 .i64 64 64 rfl rfl rfl ?b2 ?b3 ?b4 ?_)
  case b2 => rw [hz2]; omega
  case b3 => unfold maxLen; omega
  case b4 => exact Nat.le_refl _
  intro w0 hown0 hg0
  obtain ⟨cur, hcl, hcb⟩ : ∃ cur : List Value, cur.length = 64 ∧ Blk w0 w.heap.size 130 cur := by
    rcases hown0.2 with ⟨h, _⟩ | ⟨g, cap, cur, hv, hB, hg, h1, h2, h3, h4⟩
    · cases h
    · injection hv with e1 e2 e3
      injection e1 with e1
      injection e1 with e1
      subst e1 e3
      exact ⟨cur.toList, by simpa using h3, hg⟩
  have O0 := Lib.hid hcb
  have L0 := Lib.hid hcl
  have b0 : Below w.heap.size w w0 := (Below.refl _ _).grown hg0 (Nat.le_refl _) (by simp)
  clear hown0 hg0 hcl hcb
  go_wp2
  go_loopg [4, 3] 16 (fun gk i v wr => ∃ (k : Nat) (zs : List Value), gk + k = 16 ∧ i = .int .i64 k ∧ v = .slice (some ⟨w.heap.size, 0, none⟩) k 64 ∧ Hid (zs.length = 64) ∧ Hid (zs.take k = u32s (sched bs k)) ∧ Hid (Blk wr w.heap.size 130 zs) ∧ Hid (Below w.heap.size w wr))
  case atStart => exact ⟨0, cur, rfl, rfl, rfl, L0, rfl, O0, b0⟩
  case round =>
    obtain ⟨k, zs, hgk, rfl, rfl, HZ, HT, HA, HBe⟩ := hrel
    have hbs := HBe.out.size
    have hAl := HA.out.lt
    by_cases hk : k < 16
    · obtain ⟨gk, rfl⟩ : ∃ m, gk = m + 1 := ⟨gk - 1, by omega⟩
      obtain ⟨x0, hx0⟩ := some_at HL.out (show 4 * k < 64 by omega)
      obtain ⟨x1, hx1⟩ := some_at HL.out (show 4 * k + 1 < 64 by omega)
      obtain ⟨x2, hx2⟩ := some_at HL.out (show 4 * k + 2 < 64 by omega)
      obtain ⟨x3, hx3⟩ := some_at HL.out (show 4 * k + 3 < 64 by omega)
      obtain ⟨y0, y1⟩ := HB.out _ (List.mem_of_getElem? hx0)
      obtain ⟨y2, y3⟩ := HB.out _ (List.mem_of_getElem? hx1)
      obtain ⟨y4, y5⟩ := HB.out _ (List.mem_of_getElem? hx2)
      obtain ⟨y6, y7⟩ := HB.out _ (List.mem_of_getElem? hx3)
      have c0 := (HBe.out.cell (p := ⟨b, off + 4 * k, none⟩) hbl).trans (HC.out _ _ (u8s_at hx0))
      have c1 := (HBe.out.cell (p := ⟨b, off + (4 * k + 1), none⟩) hbl).trans (HC.out _ _ (u8s_at hx1))
      have c2 := (HBe.out.cell (p := ⟨b, off + (4 * k + 2), none⟩) hbl).trans (HC.out _ _ (u8s_at hx2))
      have c3 := (HBe.out.cell (p := ⟨b, off + (4 * k + 3), none⟩) hbl).trans (HC.out _ _ (u8s_at hx3))
      have HS : Hid (wordAt bs k = word4 x0 x1 x2 x3) := by
        show _ = _
        unfold wordAt
        rw [getD_of hx0, getD_of hx1, getD_of hx2, getD_of hx3]
      clear hx0 hx1 hx2 hx3
      obtain ⟨z, hz⟩ := some_at HZ.out (show k < 64 by omega)
      have d0 := HA.out.cell hz
      have df := HA.out.free
      clear hz
      go_wp2
      go_region
      go_wp2
      go_roundg gk
      case measure => omega
      case rel =>
        go_light
        have hs := setV_take (x := .int .u32 (word4 x0 x1 x2 x3)) HT.out (by rw [HZ.out]; omega)
        refine ⟨k + 1, zs.set k (.int .u32 (word4 x0 x1 x2 x3)), by omega, by go_num, rfl, by simpa [Hid] using HZ.out, ?_, ((HA.out.set_ k _).alloc _).drew, Lib.hid (by have := HBe.out; go_grown)⟩
        show _ = _
        rw [hs, sched, if_pos hk, HS.out]
        simp [u32s]
    · obtain rfl : k = 16 := by omega
      go_wp2
      go_loopg [5, 3] 48 (fun gk i v wr => ∃ (k : Nat) (zs : List Value), gk + k = 64 ∧ 16 ≤ k ∧ i = .int .i64 k ∧ v = .slice (some ⟨w.heap.size, 0, none⟩) k 64 ∧ Hid (zs.length = 64) ∧ Hid (zs.take k = u32s (sched bs k)) ∧ Hid (Blk wr w.heap.size 130 zs) ∧ Hid (Below w.heap.size w wr))
      case atStart => exact ⟨16, zs, rfl, by omega, rfl, rfl, HZ, HT, HA, HBe⟩
      case round =>
        obtain ⟨k, zs, hgk, hk16, rfl, rfl, HZ, HT, HA, HBe⟩ := hrel
        have hbs := HBe.out.size
        have hAl := HA.out.lt
        by_cases hk : k < 64
        · obtain ⟨gk, rfl⟩ : ∃ m, gk = m + 1 := ⟨gk - 1, by omega⟩
          obtain ⟨x15, hx15⟩ := some_at (sched_len bs k) (show k - 15 < k by omega)
          obtain ⟨x2, hx2⟩ := some_at (sched_len bs k) (show k - 2 < k by omega)
          obtain ⟨x16, hx16⟩ := some_at (sched_len bs k) (show k - 16 < k by omega)
          obtain ⟨x7, hx7⟩ := some_at (sched_len bs k) (show k - 7 < k by omega)
          obtain ⟨z, hz⟩ := some_at HZ.out hk
          have c15 := HA.out.cell (takeV_at HT.out (by omega) (u32s_at hx15))
          have c2 := HA.out.cell (takeV_at HT.out (by omega) (u32s_at hx2))
          have c16 := HA.out.cell (takeV_at HT.out (by omega) (u32s_at hx16))
          have c7 := HA.out.cell (takeV_at HT.out (by omega) (u32s_at hx7))
          have cz := HA.out.cell hz
          have df := HA.out.free
          have E15 := Lib.hid (getD_of hx15)
          have E2 := Lib.hid (getD_of hx2)
          have E16 := Lib.hid (getD_of hx16)
          have E7 := Lib.hid (getD_of hx7)
          have U15 : isU32 x15 := sched_u32 bs k _ (List.mem_of_getElem? hx15)
          have U2 : isU32 x2 := sched_u32 bs k _ (List.mem_of_getElem? hx2)
          clear hx15 hx2 hx16 hx7 hz
          (go_wp2_with fail); (go_at_call 129; refine (turn_d 7 7 rfl x15 _ U15 (by omega)).mono ?_; rintro e w1 ⟨rfl, rfl⟩)
          (go_wp2_with fail); (go_at_call 129; refine (turn_d 18 18 rfl x15 _ U15 (by omega)).mono ?_; rintro e w2 ⟨rfl, rfl⟩)
          (go_wp2_with fail); (go_at_call 129; refine (turn_d 17 17 rfl x2 _ U2 (by omega)).mono ?_; rintro e w3 ⟨rfl, rfl⟩)
          (go_wp2_with fail); (go_at_call 129; refine (turn_d 19 19 rfl x2 _ U2 (by omega)).mono ?_; rintro e w4 ⟨rfl, rfl⟩)
          go_wp2
          go_region
          go_wp2
          go_roundg gk
          case measure => omega
          case rel =>
            go_light
            have hs := setV_take (x := .int .u32 ((x16 + small0 x15 + x7 + small1 x2) % 4294967296)) HT.out (by rw [HZ.out]; omega)
            refine ⟨k + 1, zs.set k (.int .u32 ((x16 + small0 x15 + x7 + small1 x2) % 4294967296)), by omega, by omega, by go_num, rfl, by simpa [Hid] using HZ.out, ?_, ((HA.out.set_ k _).alloc _).drew.drew.drew.drew.drew, Lib.hid (by have := HBe.out; go_grown)⟩
            show _ = _
            rw [hs, sched, if_neg (by omega), next, E16.out, E15.out, E7.out, E2.out]
            simp [u32s]
        · obtain rfl : k = 64 := by omega
          go_wp2
          go_returns
          have ht := HT.out
          rw [List.take_of_length_le (by rw [HZ.out]; omega)] at ht
          have ha := HA.out
          rw [ht] at ha
          exact ⟨_, _, rfl, own_of_blk ha (Nat.le_refl _) (by rw [u32s_len, sched_len]) (by unfold maxLen; omega), HBe.out⟩
end Go.Proofs.YtdbojdgppgphkaaDoor
