/- The contracts of the reference's mixing of a block. Conditions: each contract's own. -/
import Derived.Test.YtdbojdgppgphkaaDoorWords
import Derived.Deep.CutRange
namespace Go.Proofs.YtdbojdgppgphkaaDoor
set_option linter.unusedSimpArgs false
open Go.RowKit
set_option linter.unusedVariables false
set_option linter.unnecessarySimpa false
theorem own_some {w : World} {base e size n c : Nat} {A : Option Addr} {xs : List Value} (h : w.ownsRow base e size (.slice A n c) n xs) (hn : 0 < n) : ∃ g, A = some ⟨g, 0, none⟩ := by
  rcases h.2 with ⟨_, h0⟩ | ⟨g, cap, cur, hv, _⟩
  · omega
  · exact ⟨g, by injection hv⟩
theorem own_drewN {w : World} {base e size n : Nat} {v : Value} {xs : List Value} (h : w.ownsRow base e size v n xs) (k : Nat) : (w.drewN k).ownsRow base e size v n xs := h
theorem below_drewN {B : Nat} {a w : World} (h : Below B a w) (n : Nat) : Below B a (w.drewN n) := h.trans ⟨rfl, rfl, rfl, Nat.le_refl _, fun _ _ => rfl⟩
/-- The row while it is moved on by one: from place n on it has been. -/
def shI (L : List Int) (n : Nat) : List Int := L.take (n + 1) ++ (L.drop n).take (7 - n)
theorem shI_len (L : List Int) (n : Nat) (h : L.length = 8) (hn : n ≤ 7) : (shI L n).length = 8 := by
  unfold shI
  rw [List.length_append, List.length_take, List.length_take, List.length_drop]; omega
theorem shI_set {L : List Int} {n : Nat} {x : Int} (h : L.length = 8) (hn : n + 1 ≤ 7) (hx : (shI L (n + 1))[n]? = some x) : (shI L (n + 1)).set (n + 1) x = shI L n := by
  match L, h with
  | [a, b, c, d, e, f, g, h], _ =>
    have h7 : n = 0 ∨ n = 1 ∨ n = 2 ∨ n = 3 ∨ n = 4 ∨ n = 5 ∨ n = 6 := by omega
    rcases h7 with rfl | rfl | rfl | rfl | rfl | rfl | rfl <;> (simp [shI] at hx ⊢; exact hx.symm)
theorem src_cells {w : World} {B b off n : Nat} {us : List Value} (h : Rd w B 1 (some ⟨b, off, none⟩) n us) (hn : 0 < n) : ∀ j u, us[j]? = some u → w.cell? ((⟨b, off, none⟩ : Addr).add j) = some u := by
  intro j u hu
  obtain ⟨b', off', e, _, hc⟩ := h.2 hn
  injection e with e
  injection e with e1 e2
  subst e1 e2
  have : (⟨b, off, none⟩ : Addr).add j = ⟨b, off + j, none⟩ := by unfold Addr.add; split <;> simp_all
  rw [this]; exact hc j u hu
theorem consts_c (w : World) : Calls Tryd.prog 128 #[] w (RetOwn 130 1 64 (u32s roundK) w) := by
  go_enter Tryd.func128, Tryd.ntmps128
  go_wp2
  go_returns
  exact ⟨_, _, rfl, own_of_blk (Blk.new w 130 (u32s roundK)) (Nat.le_refl _) rfl (by unfold maxLen; omega), by go_grown⟩
theorem turn_q (m : Int) (hm : 1 ≤ m ∧ m ≤ 31) (x : Int) (w : World) (hx : isU32 x) : Calls Tryd.prog 129 #[.int .u32 x, .int .i64 m] w (fun e w' => e = .returned (.int .u32 (rr m.toNat x)) ∧ ∃ k, w' = w.drewN k) := by
  refine (turn_d m.toNat m (by omega) x w hx (by omega)).mono ?_
  rintro e w' ⟨rfl, rfl⟩
  exact ⟨rfl, 1, rfl⟩
set_option maxHeartbeats 6000000 in
set_option maxRecDepth 100000 in
theorem block_c (A B : Option Addr) (c d : Nat) (ws bs : List Int) (w : World) (hr : Rd w w.heap.size 1 A 8 (u32s ws)) (hq : Rd w w.heap.size 1 B 64 (u8s bs)) (hu : ∀ x ∈ ws, isU32 x) (hb : ∀ x ∈ bs, 0 ≤ x ∧ x ≤ 255) :
    Calls Tryd.prog 94 #[.slice A 8 c, .slice B 64 d] w (RetOwn 130 1 8 (u32s (mixed ws bs)) w) := by
  obtain ⟨i0, hi0, hz0, hz1, hz2⟩ := info_parts info_u32z
  have HL := Lib.hid (show ws.length = 8 by simpa [u32s] using hr.len1)
  obtain ⟨b, off, rfl, hbl, hc⟩ := hr.2 (by omega)
  have HR := Lib.hid hr
  have HQ := Lib.hid hq
  have HC := Lib.hid hc
  have HU := Lib.hid hu
  clear hr hq hc hu
  obtain ⟨Ws, hWs⟩ : ∃ Ws, Ws = sched bs 64 := ⟨_, rfl⟩
  have HWs := Lib.hid hWs
  clear hWs
  go_enter Tryd.func94, Tryd.ntmps94
  (go_wp2_with fail); (go_at_call 127; refine (words_c B d bs _ (HQ.out.upB (by go_grown) (by go_size)) hb).mono ?_; rintro e w1 ⟨WA, capw, rfl, oW, b1⟩; rw [← HWs.out] at oW; obtain ⟨gw, rfl⟩ := own_some oW (by omega); have OW := Lib.hid oW; have lw := (oW.lt gw rfl).2; clear oW; obtain ⟨gc1, gf1⟩ := below_get b1; (try simp only [heap_drew, World.size_alloc, World.size_setCell] at gc1 gf1); have s1 := below_via (w := w) (by go_grown) b1; have H1 := s1; have hs1 := b1.size; (try simp at hs1); clear b1)
  (go_wp2_with fail); (go_at_call 128; refine (consts_c _).mono ?_; rintro e w2 ⟨KA, kc, rfl, oK, b2⟩; obtain ⟨gq, rfl⟩ := own_some oK (by omega); have OK := Lib.hid oK; have lk := (oK.lt gq rfl).2; clear oK; have OW2 := Lib.hid (own_up OW.out b2); obtain ⟨gc2, gf2⟩ := below_get b2; (try simp only [heap_drew, World.size_alloc, World.size_setCell] at gc2 gf2); have s2 := below_via (w := w1) (by go_grown) b2; have H2 := below_via H1 s2; have hs2 := b2.size; (try simp at hs2); clear b2)
  have HE := Lib.hid (own_empty w2 130 w2.heap.size w2.heap.size rfl (Nat.le_refl _))
  have R2 := Lib.hid ((((HR.out.up s1).up s2).upB (by go_grown) (by go_size)) : Rd (w2.alloc (.cells #[] 130)) _ 1 (some ⟨b, off, none⟩) 8 (u32s ws))
  go_wp2_with (at_builtin; refine wpList_append_lies _ rfl _ _ _ rfl w2.heap.size 130 i0 _ 1 4 Tryd.underlying131 hi0 hz0 hz1 hz2 rfl (by omega) (.slice (some ⟨w2.heap.size, 0, none⟩) 0 0) 0 [] rfl HE.out ⟨b, off, none⟩ 8 c (u32s ws) rfl (by rw [u32s_len, HL.out]) (src_cells R2.out (by omega)) (by simp [u32s, Value.oneCell']) (by omega) (by unfold maxLen; omega) (by omega) (by simp) _ rfl ?_; intro gs cap w3 hown3 hgr3 hat3 hlt3; have OS3 := Lib.hid hown3; have ls := (hown3.lt gs rfl).1; have OW3 := Lib.hid ((OW2.out.alloc _).kept hgr3 (.inr (by simp [Value.ownBlock]; omega))); have OK3 := Lib.hid ((OK.out.alloc _).kept hgr3 (.inr (by simp [Value.ownBlock]; omega))); have B3 := Lib.hid (Below.grown (H2.alloc (by omega) _) hgr3 (by simp; omega) (fun b e => by simp [Value.ownBlock] at e; omega)); clear hown3 hgr3 hat3 hlt3)
  have hsl : (u32s ws) = u32s (St.of ws).list := by rw [St.of_list HL.out]
  have OS := Lib.hid (show w3.ownsRow w2.heap.size 130 1 (.slice (some ⟨gs, 0, none⟩) 8 cap) 8 (u32s (St.of ws).list) from hsl ▸ OS3.out)
  clear hsl OS3
  have hl3 := (OS.out.lt gs rfl).2
  have lwg : gw ≠ gs := by omega
  have lkg : gq ≠ gs := by omega
  go_wp2
  go_loopg [8] 64 (fun gk i wr => ∃ (k : Nat) (s : St), gk + k = 64 ∧ i = .int .i64 k ∧ Hid (s = rnds Ws (St.of ws) k) ∧ Hid s.ok ∧ Hid (wr.ownsRow w2.heap.size 130 1 (.slice (some ⟨gs, 0, none⟩) 8 cap) 8 (u32s s.list)) ∧ Hid (wr.ownsRow w.heap.size 130 1 (.slice (some ⟨gw, 0, none⟩) 64 capw) 64 (u32s Ws)) ∧ Hid (wr.ownsRow w1.heap.size 130 1 (.slice (some ⟨gq, 0, none⟩) 64 kc) 64 (u32s roundK)) ∧ Hid (Below w.heap.size w wr))
  case atStart => exact ⟨0, St.of ws, rfl, rfl, rfl, Lib.hid (of_ok HL.out HU.out), OS, OW3, OK3, B3⟩
  case round =>
    obtain ⟨k, ⟨sa, sb, sc, sd, se, sf, sg, sh⟩, hgn, rfl, HSE, HOK, HS, HW, HKr, HBe⟩ := hrel
    by_cases hk : k < 64
    · obtain ⟨g1, rfl⟩ : ∃ m, gk = m + 1 := ⟨gk - 1, by omega⟩
      have hlw : (u32s Ws).length = 64 := by simpa using HW.out.1
      obtain ⟨wk, hwk⟩ := some_at (by simpa [u32s] using hlw) hk
      have cw := (HW.out.cellAt k (by omega)).trans (u32s_at hwk)
      have EW := Lib.hid (getD_of hwk)
      obtain ⟨kk, hkk⟩ := some_at (show roundK.length = 64 from rfl) hk
      have ck := (HKr.out.cellAt k (by omega)).trans (u32s_at hkk)
      have EK := Lib.hid (getD_of hkk)
      have UE : isU32 se := HOK.out.2.2.2.2.1
      have UA : isU32 sa := HOK.out.1
      have c0 : wr.cell? ⟨gs, 0, none⟩ = some (.int .u32 sa) := (HS.out.cellAt 0 (by omega)).trans rfl
      have c1 : wr.cell? ⟨gs, 1, none⟩ = some (.int .u32 sb) := (HS.out.cellAt 1 (by omega)).trans rfl
      have c2 : wr.cell? ⟨gs, 2, none⟩ = some (.int .u32 sc) := (HS.out.cellAt 2 (by omega)).trans rfl
      have c3 : wr.cell? ⟨gs, 3, none⟩ = some (.int .u32 sd) := (HS.out.cellAt 3 (by omega)).trans rfl
      have c4 : wr.cell? ⟨gs, 4, none⟩ = some (.int .u32 se) := (HS.out.cellAt 4 (by omega)).trans rfl
      have c5 : wr.cell? ⟨gs, 5, none⟩ = some (.int .u32 sf) := (HS.out.cellAt 5 (by omega)).trans rfl
      have c6 : wr.cell? ⟨gs, 6, none⟩ = some (.int .u32 sg) := (HS.out.cellAt 6 (by omega)).trans rfl
      have c7 : wr.cell? ⟨gs, 7, none⟩ = some (.int .u32 sh) := (HS.out.cellAt 7 (by omega)).trans rfl
      have sfz : ∀ i, wr.frozen? ⟨gs, i, none⟩ = false := fun i => HS.out.frozenAt i
      clear hwk hkk hlw
      go_wp2
      go_quiet (first | (go_at_call 129; refine Calls.quiet_of (turn_q _ (by omega) _ _ UE)))
      go_wp2
      go_region
      go_wp2
      go_region
      go_wp2_with fail
      obtain ⟨Wa, hWa⟩ : ∃ W, W = wr.drewN (nq + 1 + 1) := ⟨_, rfl⟩
      rw [← hWa]
      have HSWa := Lib.hid (show World.ownsRow Wa w2.heap.size 130 1 (.slice (some ⟨gs, 0, none⟩) 8 cap) 8 (u32s (St.mk sa sb sc sd se sf sg sh).list) from hWa ▸ own_drewN HS.out _)
      have HWWa := Lib.hid (show World.ownsRow Wa w.heap.size 130 1 (.slice (some ⟨gw, 0, none⟩) 64 capw) 64 (u32s Ws) from hWa ▸ own_drewN HW.out _)
      have HKWa := Lib.hid (show World.ownsRow Wa w1.heap.size 130 1 (.slice (some ⟨gq, 0, none⟩) 64 kc) 64 (u32s roundK) from hWa ▸ own_drewN HKr.out _)
      have HBWa := Lib.hid (show Below w.heap.size w Wa from hWa ▸ below_drewN HBe.out _)
      have cWa0 : Wa.cell? ⟨gs, 0, none⟩ = some (.int .u32 sa) := (HSWa.out.cellAt 0 (by omega)).trans rfl
      have cWa1 : Wa.cell? ⟨gs, 1, none⟩ = some (.int .u32 sb) := (HSWa.out.cellAt 1 (by omega)).trans rfl
      have cWa2 : Wa.cell? ⟨gs, 2, none⟩ = some (.int .u32 sc) := (HSWa.out.cellAt 2 (by omega)).trans rfl
      have cWa3 : Wa.cell? ⟨gs, 3, none⟩ = some (.int .u32 sd) := (HSWa.out.cellAt 3 (by omega)).trans rfl
      have cWa4 : Wa.cell? ⟨gs, 4, none⟩ = some (.int .u32 se) := (HSWa.out.cellAt 4 (by omega)).trans rfl
      have cWa5 : Wa.cell? ⟨gs, 5, none⟩ = some (.int .u32 sf) := (HSWa.out.cellAt 5 (by omega)).trans rfl
      have cWa6 : Wa.cell? ⟨gs, 6, none⟩ = some (.int .u32 sg) := (HSWa.out.cellAt 6 (by omega)).trans rfl
      have cWa7 : Wa.cell? ⟨gs, 7, none⟩ = some (.int .u32 sh) := (HSWa.out.cellAt 7 (by omega)).trans rfl
      have sfWa : ∀ i, Wa.frozen? ⟨gs, i, none⟩ = false := fun i => HSWa.out.frozenAt i
      clear hWa
      go_quiet (first | (go_at_call 129; refine Calls.quiet_of (turn_q _ (by omega) _ _ UA)))
      go_upto_region 11 with (fail)
      generalize hr6 : rr 6 se = r6
      have HR6 := Lib.hid hr6
      clear hr6
      generalize hr11 : rr 11 se = r11
      have HR11 := Lib.hid hr11
      clear hr11
      generalize hr25 : rr 25 se = r25
      have HR25 := Lib.hid hr25
      clear hr25
      generalize hr2 : rr 2 sa = r2
      have HR2 := Lib.hid hr2
      clear hr2
      generalize hr13 : rr 13 sa = r13
      have HR13 := Lib.hid hr13
      clear hr13
      generalize hr22 : rr 22 sa = r22
      have HR22 := Lib.hid hr22
      clear hr22
      obtain ⟨t1, hT1⟩ : ∃ t, t = (sh + xor32 (xor32 r6 r11) r25 + choose se sf sg + kk + wk) % 4294967296 := ⟨_, rfl⟩
      obtain ⟨t2, hT2⟩ : ∃ t, t = xor32 (xor32 r2 r13) r22 := ⟨_, rfl⟩
      obtain ⟨t3, hT3⟩ : ∃ t, t = xor32 (xor32 (and32 sa sb) (and32 sa sc)) (and32 sb sc) := ⟨_, rfl⟩
      have HT1 := Lib.hid hT1
      have HT2 := Lib.hid hT2
      have HT3 := Lib.hid hT3
      clear hT1 hT2 hT3
      go_cut [9, 10, 11, 12, 13] from 23 to 136 (fun v9 v10 v11 v12 v13 wx => v11 = .int .u32 t1 ∧ v12 = .int .u32 t2 ∧ v13 = .int .u32 t3 ∧ Hid (wx.ownsRow w2.heap.size 130 1 (.slice (some ⟨gs, 0, none⟩) 8 cap) 8 (u32s (shI [sa, sb, sc, sd, se, sf, sg, sh] 7))) ∧ Hid (wx.ownsRow w.heap.size 130 1 (.slice (some ⟨gw, 0, none⟩) 64 capw) 64 (u32s Ws)) ∧ Hid (wx.ownsRow w1.heap.size 130 1 (.slice (some ⟨gq, 0, none⟩) 64 kc) 64 (u32s roundK)) ∧ Hid (Below w.heap.size w wx))
      case first =>
        go_quiet (fail)
        go_wp2_with fail
        go_meet
        refine ⟨congrArg (Value.int .u32) ?_, congrArg (Value.int .u32) HT2.out.symm, congrArg (Value.int .u32) HT3.out.symm, HSWa.out, HWWa.out, HKWa.out, Lib.hid (below_drewN (below_drewN HBWa.out _) _)⟩
        rw [HT1.out]
        unfold choose xor32 and32
        omega
      case rest =>
        obtain ⟨rfl, rfl, rfl, HSx, HWx, HKx, HBx⟩ := hcut
        go_wp2
        go_loopg [14] 7 (fun gk i wr => ∃ (n : Nat), gk = n ∧ n ≤ 7 ∧ i = .int .i64 n ∧ Hid (wr.ownsRow w2.heap.size 130 1 (.slice (some ⟨gs, 0, none⟩) 8 cap) 8 (u32s (shI [sa, sb, sc, sd, se, sf, sg, sh] n))) ∧ Hid (wr.ownsRow w.heap.size 130 1 (.slice (some ⟨gw, 0, none⟩) 64 capw) 64 (u32s Ws)) ∧ Hid (wr.ownsRow w1.heap.size 130 1 (.slice (some ⟨gq, 0, none⟩) 64 kc) 64 (u32s roundK)) ∧ Hid (Below w.heap.size w wr))
        case atStart => exact ⟨7, rfl, by omega, rfl, HSx, HWx, HKx, HBx⟩
        case round =>
          obtain ⟨n, rfl, hn7, rfl, HS2, HW2, HK2, HB2⟩ := hrel
          have sf2 : ∀ i, wr.frozen? ⟨gs, i, none⟩ = false := fun i => HS2.out.frozenAt i
          by_cases hn : 0 < gk
          · obtain ⟨g2, rfl⟩ : ∃ m, gk = m + 1 := ⟨gk - 1, by omega⟩
            obtain ⟨x, hx⟩ := some_at (shI_len [sa, sb, sc, sd, se, sf, sg, sh] (g2 + 1) rfl (by omega)) (show g2 < 8 by omega)
            obtain ⟨y, hy⟩ := some_at (shI_len [sa, sb, sc, sd, se, sf, sg, sh] (g2 + 1) rfl (by omega)) (show g2 + 1 < 8 by omega)
            have cx := (HS2.out.cellAt g2 (by omega)).trans (u32s_at hx)
            have cy := (HS2.out.cellAt (g2 + 1) (by omega)).trans (u32s_at hy)
            have HX := Lib.hid (shI_set rfl (by omega) hx)
            clear hx hy
            go_wp2
            go_roundg g2
            case measure => omega
            case rel =>
              go_light
              exact ⟨g2, rfl, by omega, by go_num, (by have := (HS2.out.stored (g2 + 1) (.int .u32 x)).1; rw [u32s_set, HX.out] at this; exact this), HW2.out.kept (row := some gs) (gr_set (gr_refl _ gs) (.inl rfl) _) (.inr (by simp [Value.ownBlock]; omega)), HK2.out.kept (row := some gs) (gr_set (gr_refl _ gs) (.inl rfl) _) (.inr (by simp [Value.ownBlock]; omega)), HB2.out.setCell (by simp; omega) _⟩
          · obtain rfl : gk = 0 := by omega
            have c4 : wr.cell? ⟨gs, 4, none⟩ = some (.int .u32 sd) := (HS2.out.cellAt 4 (by omega)).trans rfl
            have c0 : wr.cell? ⟨gs, 0, none⟩ = some (.int .u32 sa) := (HS2.out.cellAt 0 (by omega)).trans rfl
            go_wp2
            go_roundg g1
            case measure => omega
            case rel =>
              go_light
              have ea : (t1 + t2 + t3) % 4294967296 = (rnd ⟨sa, sb, sc, sd, se, sf, sg, sh⟩ kk wk).a := by
                show _ = (sh + big1 se + choose se sf sg + kk + wk + big0 sa + xor32 (xor32 (and32 sa sb) (and32 sa sc)) (and32 sb sc)) % 4294967296
                rw [HT1.out, HT2.out, HT3.out, ← HR6.out, ← HR11.out, ← HR25.out, ← HR2.out, ← HR13.out, ← HR22.out]; unfold big1 big0; omega
              have ee : (sd + t1) % 4294967296 = (rnd ⟨sa, sb, sc, sd, se, sf, sg, sh⟩ kk wk).e := by
                show _ = (sd + (sh + big1 se + choose se sf sg + kk + wk)) % 4294967296
                rw [HT1.out, ← HR6.out, ← HR11.out, ← HR25.out]; unfold big1; omega
              have hl : ((u32s (shI [sa, sb, sc, sd, se, sf, sg, sh] 0)).set 4 (.int .u32 ((sd + t1) % 4294967296))).set 0 (.int .u32 ((t1 + t2 + t3) % 4294967296)) = u32s (rnd ⟨sa, sb, sc, sd, se, sf, sg, sh⟩ kk wk).list := by
                rw [ea, ee]; rfl
              refine ⟨k + 1, rnd ⟨sa, sb, sc, sd, se, sf, sg, sh⟩ kk wk, by omega, by go_num, ?_, Lib.hid (rnd_ok HOK.out _ _), ?_, HW2.out.kept (row := some gs) (gr_set (gr_set (gr_refl _ gs) (.inl rfl) _) (.inl rfl) _) (.inr (by simp [Value.ownBlock]; omega)), HK2.out.kept (row := some gs) (gr_set (gr_set (gr_refl _ gs) (.inl rfl) _) (.inl rfl) _) (.inr (by simp [Value.ownBlock]; omega)), (HB2.out.setCell (by simp; omega) _).setCell (by simp; omega) _⟩
              · show _ = _
                rw [rnds, ← HSE.out, EK.out, EW.out]
              · have := ((HS2.out.stored 4 (.int .u32 ((sd + t1) % 4294967296))).1.stored 0 (.int .u32 ((t1 + t2 + t3) % 4294967296))).1
                rw [hl] at this
                exact this
    · obtain rfl : k = 64 := by omega
      have HM : Hid (mixed ws bs = List.zipWith add32 ws [sa, sb, sc, sd, se, sf, sg, sh]) := by
        show _ = _
        unfold mixed
        rw [← HWs.out, ← HSE.out]; rfl
      have hgs := (HS.out.lt gs rfl).2
      have OE := Lib.hid (own_empty wr 130 wr.heap.size wr.heap.size rfl (Nat.le_refl _))
      have HS9 := Lib.hid (HS.out.alloc (.cells #[] 130))
      have HB9 := Lib.hid (HBe.out.alloc HBe.out.size (.cells #[] 130))
      clear HSE HOK HS HW HKr
      go_wp2
      have hb9 := HBe.out.size
      clear HBe
      generalize hB9 : wr.heap.size = B9 at *
      go_loopg [16, 15] 8 (fun gk i v wr => ∃ (k : Nat), gk + k = 8 ∧ i = .int .i64 k ∧ Hid (wr.ownsRow B9 130 1 v k (u32s ((List.zipWith add32 ws [sa, sb, sc, sd, se, sf, sg, sh]).take k))) ∧ Hid (wr.ownsRow w2.heap.size 130 1 (.slice (some ⟨gs, 0, none⟩) 8 cap) 8 (u32s [sa, sb, sc, sd, se, sf, sg, sh])) ∧ Hid (Below w.heap.size w wr) ∧ B9 ≤ wr.heap.size)
      case atStart => exact ⟨0, rfl, rfl, OE, HS9, HB9, by simp; omega⟩
      case round =>
        obtain ⟨k, hgk, rfl, HO, HS, HBe, hz9⟩ := hrel
        have hob : ∀ b, u15.ownBlock = some b → B9 ≤ b := fun b hb => (HO.out.lt b hb).1
        have HOB := Lib.hid hob
        clear hob
        by_cases hk : k < 8
        · obtain ⟨gk, rfl⟩ : ∃ m, gk = m + 1 := ⟨gk - 1, by omega⟩
          obtain ⟨x, hx⟩ := some_at HL.out hk
          obtain ⟨y, hy⟩ := some_at (show [sa, sb, sc, sd, se, sf, sg, sh].length = 8 from rfl) hk
          have cx := (HBe.out.cell (p := ⟨b, off + k, none⟩) hbl).trans (HC.out _ _ (u32s_at hx))
          have cy := (HS.out.cellAt k (by omega)).trans (u32s_at hy)
          have hw : IntKind.u32.wrap (x + y) = add32 x y := by rw [IntKind.wrap_u32]; rfl
          have HX : Hid ((List.zipWith add32 ws [sa, sb, sc, sd, se, sf, sg, sh]).take (k + 1) = (List.zipWith add32 ws [sa, sb, sc, sd, se, sf, sg, sh]).take k ++ [add32 x y]) := by
            show _ = _
            rw [List.take_add_one, List.getElem?_zipWith, hx, hy]; rfl
          clear hx hy
          go_wp2
          go_region_law (first
            | (refine step_append_lies _ (by rfl) _ _ _ (by rfl) B9 130 i0 _ 1 4 Tryd.underlying131 hi0 hz0 hz1 hz2 rfl (by omega) u15 k (u32s ((List.zipWith add32 ws [sa, sb, sc, sd, se, sf, sg, sh]).take k)) (by rfl) (HO.out.drew.alloc _)
                 ⟨wr.heap.size, 0, none⟩ 1 1 [.int .u32 (add32 x y)] (by rfl) (by rfl) (one_cells _ _ _ _ rfl) (by simp [Value.oneCell']) (by omega) (by unfold maxLen; omega) (by omega) (by simp; omega) _ rfl ?_; intro gg capg w5 hown5 hgr5 hat5 hlt5; have O5 := Lib.hid hown5; have S5 := Lib.hid ((HS.out.drew.alloc _).kept hgr5 (.inr (fun e => by have := HOB.out gs (by rw [← e]; rfl); omega))); have B5 := Lib.hid (Below.grown (HBe.out.drew.alloc (by simp; omega) _) hgr5 (by simp; omega) (fun b e => by have := HOB.out _ e; omega)); have hs5 := hgr5.size; simp at hs5; clear hown5 hgr5 hat5 hlt5))
          all_goals
            go_wp2
            go_roundg gk
            case measure => omega
            case rel =>
              go_light
              refine ⟨k + 1, by omega, by go_num, ?_, S5, B5, by omega⟩
              have := O5.out
              show World.ownsRow _ _ _ _ _ _ _
              rw [HX.out]
              simpa [u32s] using this
        · obtain rfl : k = 8 := by omega
          obtain ⟨gg, capg, rfl⟩ : ∃ gg cap, u15 = .slice (some ⟨gg, 0, none⟩) 8 cap := by
            rcases HO.out.2 with ⟨_, h0⟩ | ⟨gg, cap, cur, hv, _⟩
            · omega
            · exact ⟨gg, cap, hv⟩
          have ho := HO.out
          rw [List.take_of_length_le (by simp [HL.out]), ← HM.out] at ho
          have HO9 := Lib.hid ho
          clear ho
          go_wp2
          go_returns
          exact ⟨_, _, rfl, own_base HO9.out hb9, HBe.out⟩
end Go.Proofs.YtdbojdgppgphkaaDoor
