/- The contract of the mixing of a block. Conditions: each contract's own. -/
import Derived.Test.YtdbojdgppgphkaaDoorSha
namespace Go.Proofs.YtdbojdgppgphkaaDoor
set_option linter.unusedSimpArgs false
open Go.RowKit
set_option linter.unusedVariables false
set_option linter.unnecessarySimpa false
set_option maxHeartbeats 1600000 in
set_option maxRecDepth 100000 in
theorem mix_c (g : Nat) (ws bs : List Int) (u tk : Int) (w : World) (h : Blk w g 192 (hcells ws bs u tk)) (hw : ws.length = 8) (hb : bs.length = 64) (hw1 : ∀ x ∈ ws, isU32 x) (hb1 : ∀ x ∈ bs, 0 ≤ x ∧ x ≤ 255) (hg : 2 < g) (hK : ∀ i, i < 64 → w.cell? ⟨2, i, none⟩ = some (.int .u32 (roundK.getD i 0))) :
    Calls Tryd.prog 149 #[.pointer (some ⟨g, 0, none⟩)] w (fun e w' => e = .returned (.tuple #[]) ∧ Blk w' g 192 (hcells (mixed ws bs) bs u tk) ∧ w.grownBy w' (some g)) := by
  have H := Lib.hid h
  have hlt := h.lt
  have HW := Lib.hid hw
  have HB := Lib.hid hb
  have HB1 := Lib.hid hb1
  have HK := Lib.hid hK
  have HU := Lib.hid hw1
  clear h hw hb hb1 hK hw1
  go_enter Tryd.func149, Tryd.ntmps149
  go_wp2
  go_loopg [20] 16 (fun gk i wr => ∃ (k : Nat) (zs : List Int), gk + k = 16 ∧ i = .int .i64 k ∧ Hid (zs.length = 64) ∧ Hid (zs.take k = sched bs k) ∧ Hid (Blk wr w.heap.size 209 (u32s zs)) ∧ Hid (Blk wr g 192 (hcells ws bs u tk)) ∧ Hid (w.grownBy wr (some g)))
  case atStart => exact ⟨0, List.replicate 64 0, rfl, rfl, by simp [Hid], rfl, Blk.new w 209 (u32s (List.replicate 64 0)), H.out.alloc _, Lib.hid (by (repeat' (first | exact gr_refl _ _ | (with_reducible assumption) | exact Hid.out (by assumption) | refine gr_drew ?_ | refine gr_drewN ?_ _ | refine gr_alloc ?_ _ | refine gr_set ?_ ?_ _ | omega | (simp; omega))))⟩
  case round =>
    obtain ⟨k, zs, hgk, rfl, HZ, HT, HA, HG, HF⟩ := hrel
    by_cases hk : k < 16
    · obtain ⟨gk, rfl⟩ : ∃ m, gk = m + 1 := ⟨gk - 1, by omega⟩
      obtain ⟨x0, hx0⟩ := some_at HB.out (show 4 * k < 64 by omega)
      obtain ⟨x1, hx1⟩ := some_at HB.out (show 4 * k + 1 < 64 by omega)
      obtain ⟨x2, hx2⟩ := some_at HB.out (show 4 * k + 2 < 64 by omega)
      obtain ⟨x3, hx3⟩ := some_at HB.out (show 4 * k + 3 < 64 by omega)
      obtain ⟨y0, y1⟩ := HB1.out _ (List.mem_of_getElem? hx0)
      obtain ⟨y2, y3⟩ := HB1.out _ (List.mem_of_getElem? hx1)
      obtain ⟨y4, y5⟩ := HB1.out _ (List.mem_of_getElem? hx2)
      obtain ⟨y6, y7⟩ := HB1.out _ (List.mem_of_getElem? hx3)
      have c0 := HG.out.cell (hcells_b (u := u) (tk := tk) HW.out hx0)
      have c1 := HG.out.cell (hcells_b (u := u) (tk := tk) HW.out hx1)
      have c2 := HG.out.cell (hcells_b (u := u) (tk := tk) HW.out hx2)
      have c3 := HG.out.cell (hcells_b (u := u) (tk := tk) HW.out hx3)
      obtain ⟨z, hz⟩ := some_at HZ.out (show k < 64 by omega)
      have d0 := HA.out.cell (u32s_at hz)
      have df := HA.out.free
      have HS : Hid (wordAt bs k = word4 x0 x1 x2 x3) := by
        show _ = _
        unfold wordAt
        rw [getD_of hx0, getD_of hx1, getD_of hx2, getD_of hx3]
      clear hx0 hx1 hx2 hx3 hz
      go_wp2
      go_region
      go_wp2
      go_roundg gk
      case measure => omega
      case rel =>
        go_light
        have hs := set_take (x := word4 x0 x1 x2 x3) HT.out (by rw [HZ.out]; omega)
        rw [← HS.out] at hs
        refine ⟨k + 1, zs.set k (word4 x0 x1 x2 x3), by omega, by go_num, by simpa [Hid] using HZ.out, ?_, ?_, ?_, ?_⟩
        · show _ = _
          rw [sched, if_pos hk, ← HS.out]
          exact hs
        · exact (u32s_set _ _ _ ▸ HA.out.set_ k (.int .u32 (word4 x0 x1 x2 x3)) : Blk _ _ _ _).drew
        · exact (HG.out.far (by simp; omega) _).drew
        · exact Lib.hid (gr_drew (gr_set HF.out (.inr (by simp)) _))
    · obtain rfl : k = 16 := by omega
      go_wp2
      go_loopg [5, 6, 7, 8, 9] 48 (fun gk i q6 q7 q8 q9 wr => ∃ (k : Nat) (zs : List Int), gk + k = 64 ∧ 16 ≤ k ∧ i = .int .i64 k ∧ Hid (zs.length = 64) ∧ Hid (zs.take k = sched bs k) ∧ Hid (Blk wr w.heap.size 209 (u32s zs)) ∧ Hid (Blk wr g 192 (hcells ws bs u tk)) ∧ Hid (w.grownBy wr (some g)))
      case atStart => exact ⟨16, zs, rfl, by omega, rfl, HZ, HT, HA, HG, HF⟩
      case round =>
        obtain ⟨k, zs, hgk, hk16, rfl, HZ, HT, HA, HG, HF⟩ := hrel
        by_cases hk : k < 64
        · obtain ⟨gk, rfl⟩ : ∃ m, gk = m + 1 := ⟨gk - 1, by omega⟩
          obtain ⟨x15, hx15⟩ := some_at HZ.out (show k - 15 < 64 by omega)
          obtain ⟨x2, hx2⟩ := some_at HZ.out (show k - 2 < 64 by omega)
          obtain ⟨x16, hx16⟩ := some_at HZ.out (show k - 16 < 64 by omega)
          obtain ⟨x7, hx7⟩ := some_at HZ.out (show k - 7 < 64 by omega)
          obtain ⟨z, hz⟩ := some_at HZ.out hk
          have c15 := HA.out.cell (u32s_at hx15)
          have c2 := HA.out.cell (u32s_at hx2)
          have c16 := HA.out.cell (u32s_at hx16)
          have c7 := HA.out.cell (u32s_at hx7)
          have cz := HA.out.cell (u32s_at hz)
          have df := HA.out.free
          have E15 := Lib.hid (getD_take HT.out (by omega) hx15)
          have E2 := Lib.hid (getD_take HT.out (by omega) hx2)
          have E16 := Lib.hid (getD_take HT.out (by omega) hx16)
          have E7 := Lib.hid (getD_take HT.out (by omega) hx7)
          have U15 : isU32 x15 := by
            have := HT.out
            rw [← E15.out]
            exact sched_getD _ _ _
          have U2 : isU32 x2 := by
            rw [← E2.out]
            exact sched_getD _ _ _
          clear hx15 hx2 hx16 hx7 hz
          go_wp2
          go_region
          (go_wp2_with fail); (go_at_call 171; refine (rot7 x15 _ U15).mono ?_; rintro e w9 ⟨rfl, rfl⟩)
          (go_wp2_with fail); (go_at_call 171; refine (rot18 x15 _ U15).mono ?_; rintro e w9 ⟨rfl, rfl⟩)
          (go_wp2_with fail); (go_at_call 171; refine (rot17 x2 _ U2).mono ?_; rintro e w9 ⟨rfl, rfl⟩)
          (go_wp2_with fail); (go_at_call 171; refine (rot19 x2 _ U2).mono ?_; rintro e w9 ⟨rfl, rfl⟩)
          go_wp2
          go_region
          go_wp2
          go_roundg gk
          case measure => omega
          case rel =>
            go_light
            have hs := set_take (x := (x16 + small0 x15 + x7 + small1 x2) % 4294967296) HT.out (by rw [HZ.out]; omega)
            refine ⟨k + 1, zs.set k ((x16 + small0 x15 + x7 + small1 x2) % 4294967296), by omega, by omega, by go_num, by simpa [Hid] using HZ.out, ?_, ?_, ?_, ?_⟩
            · show _ = _
              rw [sched, if_neg (by omega), next, E16.out, E15.out, E7.out, E2.out]
              exact hs
            · exact (u32s_set _ _ _ ▸ HA.out.set_ k (.int .u32 ((x16 + small0 x15 + x7 + small1 x2) % 4294967296)) : Blk _ _ _ _).drew.drew
            · exact (HG.out.far (by simp; omega) _).drew.drew
            · exact Lib.hid (gr_drew (gr_drew (gr_set HF.out (.inr (by simp)) _)))
        · obtain rfl : k = 64 := by omega
          have hz := HT.out
          rw [List.take_of_length_le (by rw [HZ.out]; omega)] at hz
          have HZE := Lib.hid hz
          clear hz HT
          obtain ⟨v0, g0⟩ := some_at HW.out (show 0 < 8 by omega)
          obtain ⟨v1, g1⟩ := some_at HW.out (show 1 < 8 by omega)
          obtain ⟨v2, g2⟩ := some_at HW.out (show 2 < 8 by omega)
          obtain ⟨v3, g3⟩ := some_at HW.out (show 3 < 8 by omega)
          obtain ⟨v4, g4⟩ := some_at HW.out (show 4 < 8 by omega)
          obtain ⟨v5, g5⟩ := some_at HW.out (show 5 < 8 by omega)
          obtain ⟨v6, g6⟩ := some_at HW.out (show 6 < 8 by omega)
          obtain ⟨v7, g7⟩ := some_at HW.out (show 7 < 8 by omega)
          have hv : Hid (St.of ws = ⟨v0, v1, v2, v3, v4, v5, v6, v7⟩) := by
            show _ = _
            unfold St.of
            rw [getD_of g0, getD_of g1, getD_of g2, getD_of g3, getD_of g4, getD_of g5, getD_of g6, getD_of g7]
          have e0 := HG.out.cell (hcells_w (bs := bs) (u := u) (tk := tk) g0)
          have e1 := HG.out.cell (hcells_w (bs := bs) (u := u) (tk := tk) g1)
          have e2 := HG.out.cell (hcells_w (bs := bs) (u := u) (tk := tk) g2)
          have e3 := HG.out.cell (hcells_w (bs := bs) (u := u) (tk := tk) g3)
          have e4 := HG.out.cell (hcells_w (bs := bs) (u := u) (tk := tk) g4)
          have e5 := HG.out.cell (hcells_w (bs := bs) (u := u) (tk := tk) g5)
          have e6 := HG.out.cell (hcells_w (bs := bs) (u := u) (tk := tk) g6)
          have e7 := HG.out.cell (hcells_w (bs := bs) (u := u) (tk := tk) g7)
          clear g0 g1 g2 g3 g4 g5 g6 g7
          go_wp2
          have hwr := HF.out.size
          have hAl := HA.out.lt
          generalize hB10 : wr.heap.size = B10
          rw [hB10] at hwr hAl
          go_loopg [112] 64 (fun gk i wr => ∃ (k : Nat) (s : St), gk + k = 64 ∧ i = .int .i64 k ∧ Hid (s = rnds zs ⟨v0, v1, v2, v3, v4, v5, v6, v7⟩ k) ∧ Hid s.ok ∧ Hid (Blk wr B10 190 (u32s s.list)) ∧ Hid (Blk wr w.heap.size 209 (u32s zs)) ∧ Hid (Blk wr g 192 (hcells ws bs u tk)) ∧ Hid (w.grownBy wr (some g)))
          case atStart => exact ⟨0, _, rfl, rfl, rfl, Lib.hid (hv.out ▸ of_ok HW.out HU.out), Blk.newAt wr 190 B10 _ hB10.symm, HA.out.alloc _, HG.out.alloc _, Lib.hid (gr_alloc HF.out _)⟩
          case round =>
            obtain ⟨k, ⟨sa, sb, sc, sd, se, sf, sg, sh⟩, hgk, rfl, HSE, HOK, HS, HA, HG, HF⟩ := hrel
            by_cases hk : k < 64
            · obtain ⟨gk, rfl⟩ : ∃ m, gk = m + 1 := ⟨gk - 1, by omega⟩
              obtain ⟨wk, hwk⟩ := some_at HZ.out hk
              have cw := HA.out.cell (u32s_at hwk)
              have EW := Lib.hid (getD_of hwk)
              obtain ⟨kk, hkk⟩ : ∃ kk, roundK.getD k 0 = kk := ⟨_, rfl⟩
              have ck : wr.cell? ⟨2, k, none⟩ = some (.int .u32 kk) := by
                rw [← hkk]
                exact (World.cell?_of_block (w := w) (a := ⟨2, k, none⟩) (HF.out.block 2 (by omega) (by simp; omega))).trans (HK.out k hk)
              have EK := Lib.hid hkk
              have UE : isU32 se := HOK.out.2.2.2.2.1
              have UA : isU32 sa := HOK.out.1
              have c0 : wr.cell? ⟨B10, 0, none⟩ = some (.int .u32 sa) := HS.out.cell rfl
              have c1 : wr.cell? ⟨B10, 1, none⟩ = some (.int .u32 sb) := HS.out.cell rfl
              have c2 : wr.cell? ⟨B10, 2, none⟩ = some (.int .u32 sc) := HS.out.cell rfl
              have c3 : wr.cell? ⟨B10, 3, none⟩ = some (.int .u32 sd) := HS.out.cell rfl
              have c4 : wr.cell? ⟨B10, 4, none⟩ = some (.int .u32 se) := HS.out.cell rfl
              have c5 : wr.cell? ⟨B10, 5, none⟩ = some (.int .u32 sf) := HS.out.cell rfl
              have c6 : wr.cell? ⟨B10, 6, none⟩ = some (.int .u32 sg) := HS.out.cell rfl
              have c7 : wr.cell? ⟨B10, 7, none⟩ = some (.int .u32 sh) := HS.out.cell rfl
              have sf_ := HS.out.free
              clear hwk hkk
              go_wp2
              go_region
              go_wp2_with fail
              (go_wp2_with fail); (go_at_call 171; refine (rot6 se _ UE).mono ?_; rintro e w9 ⟨rfl, rfl⟩)
              (go_wp2_with fail); (go_at_call 171; refine (rot11 se _ UE).mono ?_; rintro e w9 ⟨rfl, rfl⟩)
              (go_wp2_with fail); (go_at_call 171; refine (rot25 se _ UE).mono ?_; rintro e w9 ⟨rfl, rfl⟩)
              go_wp2
              go_region
              go_wp2_with fail
              (go_wp2_with fail); (go_at_call 171; refine (rot2 sa _ UA).mono ?_; rintro e w9 ⟨rfl, rfl⟩)
              (go_wp2_with fail); (go_at_call 171; refine (rot13 sa _ UA).mono ?_; rintro e w9 ⟨rfl, rfl⟩)
              (go_wp2_with fail); (go_at_call 171; refine (rot22 sa _ UA).mono ?_; rintro e w9 ⟨rfl, rfl⟩)
              go_wp2
              go_roundg gk
              case measure => omega
              case rel =>
                go_light
                refine ⟨k + 1, rnd ⟨sa, sb, sc, sd, se, sf, sg, sh⟩ kk wk, by omega, by go_num, ?_, Lib.hid (rnd_ok HOK.out _ _), ((((((((HS.out.set_ 0 _).set_ 1 _).set_ 2 _).set_ 3 _).set_ 4 _).set_ 5 _).set_ 6 _).set_ 7 _).drew.drew, ((((((((HA.out.far (by simp; omega) _).far (by simp; omega) _).far (by simp; omega) _).far (by simp; omega) _).far (by simp; omega) _).far (by simp; omega) _).far (by simp; omega) _).far (by simp; omega) _).drew.drew, ((((((((HG.out.far (by simp; omega) _).far (by simp; omega) _).far (by simp; omega) _).far (by simp; omega) _).far (by simp; omega) _).far (by simp; omega) _).far (by simp; omega) _).far (by simp; omega) _).drew.drew, Lib.hid (gr_drew (gr_drew (gr_set (gr_set (gr_set (gr_set (gr_set (gr_set (gr_set (gr_set HF.out (.inr (by simp; omega)) _) (.inr (by simp; omega)) _) (.inr (by simp; omega)) _) (.inr (by simp; omega)) _) (.inr (by simp; omega)) _) (.inr (by simp; omega)) _) (.inr (by simp; omega)) _) (.inr (by simp; omega)) _)))⟩
                show _ = _
                rw [rnds, ← HSE.out, EK.out, EW.out]
            · obtain rfl : k = 64 := by omega
              have HM : Hid (mixed ws bs = List.zipWith add32 ws [sa, sb, sc, sd, se, sf, sg, sh]) := by
                show _ = _
                unfold mixed
                rw [hv.out, ← HZE.out, ← HSE.out]; rfl
              go_wp2
              go_loopg [195] 8 (fun gk i wr => ∃ (k : Nat) (us : List Int), gk + k = 8 ∧ i = .int .i64 k ∧ Hid (us.length = 8) ∧ Hid (us.take k = (List.zipWith add32 ws [sa, sb, sc, sd, se, sf, sg, sh]).take k) ∧ Hid (us.drop k = ws.drop k) ∧ Hid (Blk wr B10 190 (u32s [sa, sb, sc, sd, se, sf, sg, sh])) ∧ Hid (Blk wr g 192 (hcells us bs u tk)) ∧ Hid (w.grownBy wr (some g)))
              case atStart => exact ⟨0, ws, rfl, rfl, HW, rfl, rfl, HS, HG, HF⟩
              case round =>
                obtain ⟨k, us, hgk, rfl, HL, HT, HD, HS, HG, HF⟩ := hrel
                by_cases hk : k < 8
                · obtain ⟨gk, rfl⟩ : ∃ m, gk = m + 1 := ⟨gk - 1, by omega⟩
                  obtain ⟨x, hx⟩ := some_at HW.out hk
                  obtain ⟨y, hy⟩ := some_at (show [sa, sb, sc, sd, se, sf, sg, sh].length = 8 from rfl) hk
                  have cx := HG.out.cell (hcells_w (bs := bs) (u := u) (tk := tk) (drop_at HD.out hx))
                  have cy := HS.out.cell (u32s_at hy)
                  have cf := HG.out.free
                  have HX := Lib.hid (take_zip HT.out (by rw [HL.out]; exact hk) hx hy)
                  clear hx hy
                  go_wp2
                  go_region
                  go_wp2
                  go_roundg gk
                  case measure => omega
                  case rel =>
                    go_light
                    exact ⟨k + 1, us.set k (add32 x y), by omega, by go_num, by simpa [Hid] using HL.out, HX, Lib.hid (drop_set HD.out), (HS.out.far (by simp; omega) _).drew, (hcells_set (by rw [HL.out]; exact hk) ▸ HG.out.set_ k (.int .u32 (add32 x y)) : Blk _ _ _ _).drew, Lib.hid (gr_drew (gr_set HF.out (.inl rfl) _))⟩
                · obtain rfl : k = 8 := by omega
                  go_wp2
                  go_returns
                  have ht := HT.out
                  rw [List.take_of_length_le (by rw [HL.out]; omega), List.take_of_length_le (by simp [HW.out]), ← HM.out] at ht
                  exact ⟨rfl, ht ▸ HG.out, HF.out⟩
end Go.Proofs.YtdbojdgppgphkaaDoor
