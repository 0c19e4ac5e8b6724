/- Contracts of FleetNew on both sides. Conditions: each contract's own. -/
import Derived.Test.YtbijlencoilchaaFleet2
import Derived.Test.YtbijlencoilchaaDraw2
import Derived.Deep.CutBlock
namespace Go.Proofs.Ytbijlencoilchaa
open Go.RowKit
set_option linter.unusedVariables false
set_option linter.unnecessarySimpa false
theorem own_of_blk {W : World} {g e base n : Nat} {cs : List Value} (h : Blk W g e cs) (hB : base ≤ g) (hl : cs.length = n) (hn : n ≤ maxLen) : W.ownsRow base e 1 (.slice (some ⟨g, 0, none⟩) n n) n cs :=
  ⟨by omega, .inr ⟨g, n, cs.toArray, rfl, hB, h, Nat.le_refl _, hn, by simp [hl], by simp [← hl]⟩⟩
theorem made3 : madeCells #[Value.int .i64 0] 3 = #[.int .i64 0, .int .i64 0, .int .i64 0] := by kernel_rfl
theorem Blk.at_new (w : World) (t g : Nat) (cs : List Value) (hg : g = w.heap.size) : Blk (w.alloc (.cells cs.toArray t)) g t cs := hg ▸ Blk.new w t cs
theorem gate_cells (w : World) (t g : Nat) (s : ByteArray) (hg : g = w.heap.size) : ∀ j u, (kgate s 0)[j]? = some u → (w.alloc (.cells #[.string s, .string ByteArray.empty, .string ByteArray.empty, .bool true, .string ByteArray.empty, .string ByteArray.empty] t)).cell? ((⟨g, 0, none⟩ : Addr).add j) = some u :=
  fun j u hu => by rw [add_zero_block]; exact (Blk.at_new w t g (kgate s 0) hg).cell hu
theorem info_gate : (Try.prog.info? 26).map (fun i => (i.zero, i.size, i.bytes)) = some (some (.agg #[.string ByteArray.empty, .string ByteArray.empty, .string ByteArray.empty, .bool false, .string ByteArray.empty, .string ByteArray.empty]), 6, 88) := by kernel_rfl
set_option maxHeartbeats 2000000 in
set_option maxRecDepth 100000 in
theorem fleetNew_c (s : ByteArray) (hs : s.size ≤ 64) (w : World) : Calls Try.prog 37 #[.string s] w (fun e w' => ∃ gR gD gG cG, e = .returned (.agg #[.string s, .slice none 0 0, .slice (some ⟨gR, 0, none⟩) 3 3, .slice (some ⟨gD, 0, none⟩) 3 3, .slice (some ⟨gG, 0, none⟩) 3 cG, .slice none 0 0, .slice none 0 0]) ∧
    gR ≠ gD ∧ gR ≠ gG ∧ gD ≠ gG ∧ w'.ownsRow w.heap.size 3 1 (.slice (some ⟨gR, 0, none⟩) 3 3) 3 (ints [0, 0, 0]) ∧ w'.ownsRow w.heap.size 3 1 (.slice (some ⟨gD, 0, none⟩) 3 3) 3 (ints [0, 0, 0]) ∧
    w'.ownsRow w.heap.size 26 6 (.slice (some ⟨gG, 0, none⟩) 3 cG) 3 (gcells (kgate s) 3) ∧ Below w.heap.size w w') := by
  have hk : decide (64 < (s.size : Int)) = false := by simp; omega
  have hmk : ∀ W : World, (Instr.makeSlice 30 (.int .i64 3) (.int .i64 3)).run Try.prog W = .ok (.slice (some ⟨W.heap.size, 0, none⟩) 3 3) (W.alloc (.cells #[.int .i64 0, .int .i64 0, .int .i64 0] 3)) := by
    intro W
    have := run_make_row' (P := Try.prog) 30 3 (.int .i64 0) 8 Try.underlying30 info_int rfl .i64 .i64 3 (by omega) (by omega) W
    rw [made3] at this
    exact this
  go_enter Try.func37, Try.ntmps37
  go_upto_block 3 with (fail)
  go_cut [3] (fun v wx => ∃ gF gR gD, v = .pointer (some ⟨gF, 0, none⟩) ∧ w.heap.size < gF ∧ w.heap.size < gR ∧ w.heap.size < gD ∧ gR ≠ gD ∧ gF ≠ gR ∧ gF ≠ gD ∧
    Hid (Blk wx gF 66 [.string s, .slice none 0 0, .slice (some ⟨gR, 0, none⟩) 3 3, .slice (some ⟨gD, 0, none⟩) 3 3, .slice none 0 0, .slice none 0 0, .slice none 0 0]) ∧
    Hid (Blk wx gR 3 [.int .i64 0, .int .i64 0, .int .i64 0]) ∧ Hid (Blk wx gD 3 [.int .i64 0, .int .i64 0, .int .i64 0]) ∧ Hid (Blk wx w.heap.size 66 [.string ⟨#[]⟩, .slice none 0 0, .slice none 0 0, .slice none 0 0, .slice none 0 0, .slice none 0 0, .slice none 0 0]) ∧ Hid (Below w.heap.size w wx) ∧ gF < wx.heap.size ∧ gR < wx.heap.size ∧ gD < wx.heap.size)
  case first =>
    go_region
    all_goals (go_wp2_with fail)
    all_goals go_meet
    all_goals first
      | exact ⟨w.heap.size + 1, w.heap.size + 1 + 1, w.heap.size + 1 + 1 + 1, rfl, by omega, by omega, by omega, by omega, by omega, by omega, Blk.drew (((Blk.at_new _ _ _ _ (by simp)).alloc _).alloc _), Blk.drew ((Blk.at_new _ _ _ _ (by simp)).alloc _), Blk.drew (Blk.at_new _ _ _ _ (by simp)), Blk.drew ((((Blk.at_new _ _ _ _ rfl).alloc _).alloc _).alloc _), Lib.hid (by go_grown), by simp, by simp, by simp⟩
      | exact ⟨w.heap.size + 1, w.heap.size + 1 + 1 + 1, w.heap.size + 1 + 1, rfl, by omega, by omega, by omega, by omega, by omega, by omega, Blk.drew (((Blk.at_new _ _ _ _ (by simp)).alloc _).alloc _), Blk.drew (Blk.at_new _ _ _ _ (by simp)), Blk.drew ((Blk.at_new _ _ _ _ (by simp)).alloc _), Blk.drew ((((Blk.at_new _ _ _ _ rfl).alloc _).alloc _).alloc _), Lib.hid (by go_grown), by simp, by simp, by simp⟩
      | exact ⟨w.heap.size + 1 + 1, w.heap.size + 1, w.heap.size + 1 + 1 + 1, rfl, by omega, by omega, by omega, by omega, by omega, by omega, Blk.drew ((Blk.at_new _ _ _ _ (by simp)).alloc _), Blk.drew (((Blk.at_new _ _ _ _ (by simp)).alloc _).alloc _), Blk.drew (Blk.at_new _ _ _ _ (by simp)), Blk.drew ((((Blk.at_new _ _ _ _ rfl).alloc _).alloc _).alloc _), Lib.hid (by go_grown), by simp, by simp, by simp⟩
      | exact ⟨w.heap.size + 1 + 1, w.heap.size + 1 + 1 + 1, w.heap.size + 1, rfl, by omega, by omega, by omega, by omega, by omega, by omega, Blk.drew ((Blk.at_new _ _ _ _ (by simp)).alloc _), Blk.drew (Blk.at_new _ _ _ _ (by simp)), Blk.drew (((Blk.at_new _ _ _ _ (by simp)).alloc _).alloc _), Blk.drew ((((Blk.at_new _ _ _ _ rfl).alloc _).alloc _).alloc _), Lib.hid (by go_grown), by simp, by simp, by simp⟩
      | exact ⟨w.heap.size + 1 + 1 + 1, w.heap.size + 1, w.heap.size + 1 + 1, rfl, by omega, by omega, by omega, by omega, by omega, by omega, Blk.drew (Blk.at_new _ _ _ _ (by simp)), Blk.drew (((Blk.at_new _ _ _ _ (by simp)).alloc _).alloc _), Blk.drew ((Blk.at_new _ _ _ _ (by simp)).alloc _), Blk.drew ((((Blk.at_new _ _ _ _ rfl).alloc _).alloc _).alloc _), Lib.hid (by go_grown), by simp, by simp, by simp⟩
      | exact ⟨w.heap.size + 1 + 1 + 1, w.heap.size + 1 + 1, w.heap.size + 1, rfl, by omega, by omega, by omega, by omega, by omega, by omega, Blk.drew (Blk.at_new _ _ _ _ (by simp)), Blk.drew ((Blk.at_new _ _ _ _ (by simp)).alloc _), Blk.drew (((Blk.at_new _ _ _ _ (by simp)).alloc _).alloc _), Blk.drew ((((Blk.at_new _ _ _ _ rfl).alloc _).alloc _).alloc _), Lib.hid (by go_grown), by simp, by simp, by simp⟩
  case rest =>
    obtain ⟨gF, gR, gD, rfl, h1, h2, h3, h4, h5, h6, HF, HR, HD, HA, HB, z1, z2, z3⟩ := hcut
    obtain ⟨i0, hi0, hz0, hz1, hz2⟩ := info_parts info_gate
    go_wp2
    go_loopg [12] 3 (fun gk i wr => ∃ (k : Nat) (v : Value), gk + k = 3 ∧ i = .int .i64 k ∧
      Hid (Blk wr gF 66 [.string s, .slice none 0 0, .slice (some ⟨gR, 0, none⟩) 3 3, .slice (some ⟨gD, 0, none⟩) 3 3, v, .slice none 0 0, .slice none 0 0]) ∧
      Hid (wr.ownsRow wc.heap.size 26 6 v k (gcells (kgate s) k)) ∧ Hid (wc.grownBy wr (some gF)))
    case atStart => exact ⟨0, _, rfl, rfl, HF, World.ownsRow_nil _ _ _ _, gr_refl _ _⟩
    case round =>
      obtain ⟨k, v, hgk, rfl, HF, HO, HG⟩ := hrel
      have c4 := HF.out.cell (i := 4) rfl
      have cf := HF.out.free
      have hsz := HG.out.size
      have hob : ∀ b, v.ownBlock = some b → wc.heap.size ≤ b := fun b hb => (HO.out.lt b hb).1
      have HOB := Lib.hid hob
      clear hob
      by_cases hk : k < 3
      · obtain ⟨gk, rfl⟩ : ∃ m, gk = m + 1 := ⟨gk - 1, by omega⟩
        have hFr : gF < wr.heap.size := by omega
        go_wp2
        go_region_law (first
          | (refine step_append_lies _ (by rfl) _ _ _ (by rfl) wc.heap.size 26 i0 _ 6 88 Try.underlying62 hi0 hz0 hz1 hz2 rfl (by omega) v k (gcells (kgate s) k) (by rfl) (HO4.out.alloc _)
               ⟨w4.heap.size, 0, none⟩ 1 1 (kgate s 0) (by rfl) (by rfl) (gate_cells _ _ _ _ rfl) (by simp [kgate, Value.oneCell']) (by omega) (by unfold maxLen; omega) (by omega) (by simp; omega) _ rfl ?_; intro gg cap w5 hown5 hgr5 hat5 hlt5; have F5 := Lib.hid ((F4.out.alloc _).other hgr5 (fun e => by have := HOB.out _ e; omega)); have c5 := F5.out.cell (i := 4) rfl; have cf5 := F5.out.free; have hs5 := hgr5.size; simp at hs5; have G5 := Lib.hid (gr_grown (gr_alloc G4.out _) hgr5 (fun b e => by have := HOB.out _ e; omega)); have HO5 := Lib.hid hown5; clear hown5 hgr5 hat5 hlt5)
          | (go_simp; (go_at_call 13; refine (gateNew_c s _).mono ?_; rintro e w4 ⟨rfl, b4⟩; have HO4 := Lib.hid (own_up (HO.out.drew) b4); have F4 := Lib.hid (HF.out.drew.up b4); have c4' := F4.out.cell (i := 4) rfl; have cf4 := F4.out.free; have hs4 := b4.size; simp at hs4; have z4 : gF < w4.heap.size := (by omega); have G4 := Lib.hid (gr_via (gr_drew HG.out) (gr_of_below b4 gF)); clear b4; unfold gateNewV)))
        all_goals
          go_wp2
          go_roundg gk
          case measure => omega
          case rel =>
            go_light
            exact ⟨k + 1, _, by omega, by go_num, F5.out.set_ 4 _, ownsRow_setCell_below HO5.out (a := ⟨gF, 4, none⟩) (by simp; omega) _, gr_set G5.out (.inl rfl) _⟩
      · obtain rfl : k = 3 := by omega
        obtain ⟨gg, cap, rfl⟩ : ∃ gg cap, v = .slice (some ⟨gg, 0, none⟩) 3 cap := by
          rcases HO.out.2 with ⟨_, h0⟩ | ⟨gg, cap, cur, hv, _⟩
          · omega
          · exact ⟨gg, cap, hv⟩
        have c0 := HF.out.cell (i := 0) rfl
        have c1 := HF.out.cell (i := 1) rfl
        have c2 := HF.out.cell (i := 2) rfl
        have c3 := HF.out.cell (i := 3) rfl
        have c5 := HF.out.cell (i := 5) rfl
        have c6 := HF.out.cell (i := 6) rfl
        have A := Lib.hid (HA.out.other HG.out (by simp; omega))
        have a0 := A.out.cell (i := 0) rfl
        have a1 := A.out.cell (i := 1) rfl
        have a2 := A.out.cell (i := 2) rfl
        have a3 := A.out.cell (i := 3) rfl
        have a4 := A.out.cell (i := 4) rfl
        have a5 := A.out.cell (i := 5) rfl
        have a6 := A.out.cell (i := 6) rfl
        have af := A.out.free
        have hgg := HOB.out gg rfl
        have hF0 : w.heap.size ≠ gF := by omega
        go_wp2
        refine bodyPost_ret (v := .agg #[.string s, .slice none 0 0, .slice (some ⟨gR, 0, none⟩) 3 3, .slice (some ⟨gD, 0, none⟩) 3 3, .slice (some ⟨gg, 0, none⟩) 3 cap, .slice none 0 0, .slice none 0 0]) (by simp [results, Try.results37, go_sem, a0, a1, a2, a3, a4, a5, a6]) rfl ?_
        go_light
        have R3 := HR.out.other HG.out (by simp; omega)
        have D3 := HD.out.other HG.out (by simp; omega)
        have hR0 : gR ≠ w.heap.size := by omega
        have hD0 : gD ≠ w.heap.size := by omega
        have hB4 := gr_below HG.out (B := w.heap.size) (by omega) HB.out.size
        refine ⟨gR, gD, gg, cap, rfl, h4, by omega, by omega, own_of_blk (((((((R3.far hR0 _).far hR0 _).far hR0 _).far hR0 _).far hR0 _).far hR0 _).far hR0 _) (by omega) rfl (by unfold maxLen; omega), own_of_blk (((((((D3.far hD0 _).far hD0 _).far hD0 _).far hD0 _).far hD0 _).far hD0 _).far hD0 _) (by omega) rfl (by unfold maxLen; omega), own_base (ownsRow_setCell_below (ownsRow_setCell_below (ownsRow_setCell_below (ownsRow_setCell_below (ownsRow_setCell_below (ownsRow_setCell_below (ownsRow_setCell_below HO.out (by simp; omega) _) (by simp; omega) _) (by simp; omega) _) (by simp; omega) _) (by simp; omega) _) (by simp; omega) _) (by simp; omega) _) HB.out.size, ?_⟩
        have hb := HB.out.trans hB4
        go_grown
theorem fleetNew_big (s : ByteArray) (hs : 64 < s.size) (w : World) : Calls Try.prog 37 #[.string s] w (RetB (.agg #[.string ByteArray.empty, .slice none 0 0, .slice none 0 0, .slice none 0 0, .slice none 0 0, .slice none 0 0, .slice none 0 0]) w) := by
  have hk : decide (64 < (s.size : Int)) = true := by simp; omega
  go_enter Try.func37, Try.ntmps37
  go_wp2
  go_returns
  exact ⟨rfl, by go_grown⟩
theorem specFleetNew_big (s : ByteArray) (hs : 64 < s.size) (w : World) : Calls Try.prog 36 #[.string s] w (RetB (.agg #[.string ByteArray.empty, .slice none 0 0, .slice none 0 0, .slice none 0 0, .slice none 0 0, .slice none 0 0, .slice none 0 0]) w) := by
  have hk : decide (64 < (s.size : Int)) = true := by simp; omega
  go_enter Try.func36, Try.ntmps36
  go_wp2
  go_returns
  exact ⟨rfl, by go_grown⟩
end Go.Proofs.Ytbijlencoilchaa
