/- nearCalls$1: the iterator over near calls. Conditions: each contract's own. -/
import Derived.Test.YtmfienlceobfeaaDoorJ0186c30aec
import Derived.Test.YtmfienlceobfeaaDoorRangeX
import Derived.ControlIn
import Derived.OwnWalkIn
import Derived.TacticsInMore
import Derived.LoopNIn
import Derived.LoopIn
import Derived.WalkKit
namespace Go.Proofs.YtmfienlceobfeaaDoor
set_option linter.unusedSimpArgs false
open Go.RowKit
set_option linter.unusedVariables false
set_option linter.unnecessarySimpa false
set_option maxRecDepth 20000
/-- From W to W' no cells of three types have turned. -/
def KpN (a b c : Nat) (W W' : World) : Prop := W.heap.size ≤ W'.heap.size ∧ ∀ (k : Nat) (cs : Array Value) (ty : Nat) (fr : Nat × Nat), (ty = a ∨ ty = b ∨ ty = c) → W.heap[k]? = some (Obj.cells cs ty fr) → W'.heap[k]? = some (Obj.cells cs ty fr)
theorem KpN.trans {a b c : Nat} {W W' X : World} (h : KpN a b c W W') (k : KpN a b c W' X) : KpN a b c W X := ⟨Nat.le_trans h.1 k.1, fun i cs ty fr ht hi => k.2 i cs ty fr ht (h.2 i cs ty fr ht hi)⟩
theorem KpN.blk {a b c g t : Nat} {W W' : World} {cs : List Value} (h : KpN a b c W W') (hb : Blk W g t cs) (ht : t = a ∨ t = b ∨ t = c) : Blk W' g t cs := h.2 g _ t _ ht hb
theorem KpN.own {a b c lo e size n : Nat} {W W' : World} {v : Value} {xs : List Value} (h : KpN a b c W W') (ho : W.ownsRow lo e size v n xs) (ht : e = a ∨ e = b ∨ e = c) : W'.ownsRow lo e size v n xs :=
  ⟨ho.1, ho.2.imp id fun ⟨g, cap, cur, hv, hg, hh, r⟩ => ⟨g, cap, cur, hv, hg, h.2 g _ e _ ht hh, r⟩⟩
/-- The lists of words in five places: a block of their slices. -/
theorem WL.wdB {w : World} {lo ET RT bw : Nat} {ls : List (List Int)} {vs : List Value} (h : WL w lo ET 5 ls vs) (hl : ls.length = 5) (hs : ∀ xs ∈ ls, xs.length ≤ 1000) (hb : Blk w bw RT vs) : WD w w.heap.size bw 0 ls := fun i xs hi => by
  have hi5 : i < 5 := by have := (List.getElem?_eq_some_iff.1 hi).1; omega
  obtain ⟨b, c', e, ho'⟩ := h i xs hi5 hi
  refine ⟨hb.lt, b, 0, c', (ho'.lt b rfl).2, hs xs (List.mem_of_getElem? hi), by rw [Nat.zero_add]; exact hb.cell e, fun j x hj => ?_⟩
  exact (rdN_cell (Rd.of_own ho') hj).1
theorem WL.kp {a b c lo k : Nat} {W W' : World} {ls : List (List Int)} {vs : List Value} (h : WL W lo a k ls vs) (hk : KpN a b c W W') : WL W' lo a k ls vs := fun j xs hj hx => by
  obtain ⟨b1, c1, e, ho⟩ := h j xs hj hx
  exact ⟨b1, c1, e, hk.own ho (.inl rfl)⟩
theorem WL.setB {w : World} {lo ET k X T o : Nat} {ls : List (List Int)} {vs cs : List Value} (h : WL w lo ET k ls vs) (hX : Blk w X T cs) (h1 : ET ≠ T) (u : Value) : WL (w.setCell ⟨X, o, none⟩ u) lo ET k ls vs := fun j xs hj hx => by
  obtain ⟨b1, c1, e, ho⟩ := h j xs hj hx
  exact ⟨b1, c1, e, own_setB ho hX h1 u⟩
/-- All near calls. -/
def nearAll (rs : List Rl) : List (List Int) := (allN (lensN (nearL rs))).map (wordsAt (nearL rs))
def encC (x : List Int × Value) : Array Value := #[.agg #[.int .i64 (x.1.headD 0), x.2]]
/-- The slices of k lists, the other places nil. -/
def vsN (vs : List Value) (k : Nat) : List Value := vs ++ List.replicate (5 - k) (.slice none 0 0)
theorem vsN_set {vs : List Value} {k : Nat} (hv : vs.length = k) (hk : k < 5) (u : Value) : (vsN vs k).set k u = vsN (vs ++ [u]) (k + 1) := by
  unfold vsN
  rw [List.set_append_right _ _ (by omega), hv, Nat.sub_self, show 5 - k = 5 - (k + 1) + 1 by omega, List.replicate_succ]
  simp
theorem vsN_at {vs : List Value} {k : Nat} (hv : vs.length = k) (hk : k < 5) : (vsN vs k)[k]? = some (.slice none 0 0) := by
  unfold vsN
  rw [List.getElem?_append_right (by omega), hv, Nat.sub_self, List.getElem?_replicate, if_pos (by omega)]
theorem vsN_full {vs : List Value} : vsN vs 5 = vs := by simp [vsN]
set_option maxHeartbeats 8000000 in
set_option maxRecDepth 100000 in
theorem nearIter (A : Option Addr) (n c bp N : Nat) (rs : List Rl) (e : Int) (w : World) (hn : n ≤ 8) (hr : RdR w w.heap.size A n rs) (hB : rs.all ruleB = true) (hp : Blk w bp 25 [.slice A n c, .int .i64 e]) :
    SeqStopsX Fence.wide N Tryd.prog 26 #[.pointer (some ⟨bp, 0, none⟩)] encC (fun x W => CO W w.heap.size 3 x) 61 (KpN 3 59 61) (fun xs => xs.map Prod.fst = nearAll rs) (fun pre => pre.map Prod.fst = (nearAll rs).take pre.length) w := by
  have hl1 := hr.1
  subst hl1
  intro l J Jx W hW hJ hJx hY h0
  refine callsIn_wide.2 ?_
  show Calls Tryd.prog 26 #[.func (.yield l) #[] #[], .pointer (some ⟨bp, 0, none⟩)] W _
  obtain ⟨i0, hi0, hz0, hz1, hz2⟩ := info_parts info_int
  have HR := Lib.hid hr
  have HBB := Lib.hid hB
  have HSM := Lib.hid (nearL_small (rs := rs) hn (fun r hr => by
    rw [List.all_eq_true] at hB
    exact (rule_and (hB r hr)).2.2.2.2.1))
  have HP := Lib.hid hp
  have HW := Lib.hid hW
  have HY := Lib.hid hY
  have HJ := Lib.hid hJ
  have HJX := Lib.hid hJx
  have H0 := Lib.hid h0
  have sW := hW.size
  have hbp := hp.lt
  clear hr hB hp hW hY hJ hJx h0
  have HX0 : Hid (Blk (W.alloc (.cells #[.slice none 0 0, .slice none 0 0, .slice none 0 0, .slice none 0 0, .slice none 0 0] 59)) W.heap.size 59 (vsN [] 0)) := Lib.hid (Blk.new W 59 [.slice none 0 0, .slice none 0 0, .slice none 0 0, .slice none 0 0, .slice none 0 0])
  go_enter Tryd.func26, Tryd.ntmps26
  go_wp2_with fail
  go_loopg [9] 5 (fun gk i wr => ∃ (k : Nat) (vs : List Value), gk + k = 5 ∧ i = .int .i64 k ∧ vs.length = k ∧ Hid (Blk wr W.heap.size 59 (vsN vs k)) ∧ Hid (WL wr (W.heap.size + 1) 3 k (nearL rs) vs) ∧ Hid (Below W.heap.size W wr) ∧ W.heap.size + 1 ≤ wr.heap.size)
  case atStart => exact ⟨0, [], by omega, rfl, rfl, HX0, Lib.hid (fun j xs hj => by omega), Lib.hid (by go_grown), by simp⟩
  case round =>
    obtain ⟨k, vs, hgk, rfl, hvl, HX, HWL, HF, hsz⟩ := hrel
    have hbs := HF.out.size
    by_cases hk : gk = 0
    · subst hk
      obtain rfl : k = 5 := by omega
      rw [vsN_full] at HX
      obtain ⟨M, hM⟩ : ∃ M, M = (allN (lensN (nearL rs))).length := ⟨_, rfl⟩
      have HM := Lib.hid hM
      have hzz := (allN_step _ (lens_pos rs)).1
      have hMp : 0 < M := by rw [hM]; exact (List.getElem?_eq_some_iff.1 hzz).1
      have HZZ : Hid ((allN (lensN (nearL rs)))[0]? = some [0, 0, 0, 0, 0]) := Lib.hid hzz
      clear hM hzz
      have HB0 : Hid (Blk (wr.alloc (.cells #[.int .i64 0, .int .i64 0, .int .i64 0, .int .i64 0, .int .i64 0] 61)) wr.heap.size 61 (nv [0, 0, 0, 0, 0])) := Lib.hid (Blk.new wr 61 (nv [0, 0, 0, 0, 0]))
      have HXA : Hid (Blk (wr.alloc (.cells #[.int .i64 0, .int .i64 0, .int .i64 0, .int .i64 0, .int .i64 0] 61)) W.heap.size 59 vs) := Lib.hid (HX.out.alloc _)
      have HWA : Hid (WL (wr.alloc (.cells #[.int .i64 0, .int .i64 0, .int .i64 0, .int .i64 0, .int .i64 0] 61)) (W.heap.size + 1) 3 5 (nearL rs) vs) := Lib.hid (HWL.out.up (by go_grown))
      have HJ0 : Hid (J [] (wr.alloc (.cells #[.int .i64 0, .int .i64 0, .int .i64 0, .int .i64 0, .int .i64 0] 61))) := Lib.hid (HJ.out _ _ _ H0.out (KeepT.of_below (show Below W.heap.size W _ from below_via HF.out (by go_grown))))
      obtain ⟨AT, hAT⟩ : ∃ AT, AT = wr.heap.size := ⟨_, rfl⟩
      rw [← hAT] at HB0
      have hAW : W.heap.size < AT := by omega
      go_wp2_with fail
      rw [← hAT]
      clear hAT
      go_loopg [8] M (fun gk v8 wr => ∃ (k : Nat) (a : List Nat) (pre : List (List Int × Value)), gk + k = M ∧ a.length = 5 ∧ pre.length = k ∧ Hid ((allN (lensN (nearL rs)))[k]? = some a) ∧ Hid (pre.map Prod.fst = ((allN (lensN (nearL rs))).take k).map (wordsAt (nearL rs))) ∧ Hid (J pre wr) ∧ Hid (WL wr (W.heap.size + 1) 3 5 (nearL rs) vs) ∧ Hid (Blk wr W.heap.size 59 vs) ∧ Hid (Blk wr AT 61 (nv a)))
      case atStart => exact ⟨0, [0, 0, 0, 0, 0], [], by omega, rfl, rfl, HZZ, Lib.hid rfl, HJ0, HWA, HXA, HB0⟩
      case round =>
        clear HB0 HXA HWA HJ0 HX HWL HF HZZ
        obtain ⟨k, a, pre, hgk, ha5, hpl, HA, HN, HJP, HWL, HX, HAT⟩ := hrel
        have hlx := HX.out.lt
        have hla := HAT.out.lt
        have hamem : a ∈ allN (lensN (nearL rs)) := List.mem_of_getElem? HA.out
        have HAM := Lib.hid hamem
        have H5 := Lib.hid (five_at (HWL.out.wdB (nearL_len rs) HSM.out HX.out) (Below.refl _ _) hamem)
        obtain ⟨x0, bb0, oo0, cc0, nn0, y0, hx0, hlt0, hnn0, hbwB, hbb0, kw0, kv0, hy0', hl0⟩ := H5.out 0 (by omega)
        have kp0 := HAT.out.cell (i := 0) (nv_at hx0)
        have HY0 := Lib.hid hy0'
        clear hx0 hl0 hy0' hamem
        obtain ⟨ga, rfl⟩ : ∃ x : Nat, x = gk := ⟨_, rfl⟩
        obtain ⟨wo, rfl⟩ : ∃ x : World, x = wr := ⟨_, rfl⟩
        have BX : Hid (Blk (wo.alloc (.cells #[.int .i64 y0, .slice none 0 0] 33)) wo.heap.size 33 [.int .i64 y0, .slice none 0 0]) := Lib.hid (Blk.new wo 33 [.int .i64 y0, .slice none 0 0])
        have BL : Hid (Below wo.heap.size wo (wo.alloc (.cells #[.int .i64 y0, .slice none 0 0] 33))) := Lib.hid (by go_grown)
        have hsX := BX.out.lt
        go_wp2_with fail
        clear kw0 kv0 kp0 hbwB hbb0 hlt0 hnn0
        go_loopg [7] 4 (fun gj v wr => ∃ (m : Nat) (TA : Option Addr) (tc : Nat), gj + m = 4 ∧ v = .int .i64 ((m : Int) + 1) ∧ Hid (Blk wr wo.heap.size 33 [.int .i64 y0, .slice TA m tc]) ∧ Hid (wr.ownsRow (wo.heap.size + 1) 3 1 (.slice TA m tc) m (ints ((wordsAt (nearL rs) a).tail.take m))) ∧ Hid (Below wo.heap.size wo wr) ∧ wo.heap.size < wr.heap.size)
        case atStart => exact ⟨0, none, 0, by omega, rfl, BX, Lib.hid (World.ownsRow_nil _ _ _ _), BL, hsX⟩
        case round =>
          clear BX BL hsX
          obtain ⟨m, TA, tc, hgm, rfl, BX, OT, BL, hsX⟩ := hrel
          by_cases hj : gk = 0
          · subst hj
            obtain rfl : m = 4 := by omega
            obtain ⟨q, hq⟩ : ∃ q : List Int × Value, q = (wordsAt (nearL rs) a, .slice TA 4 tc) := ⟨_, rfl⟩
            have hwl : (wordsAt (nearL rs) a).length = 5 := by
              unfold wordsAt
              rw [List.length_map, List.length_zip, ha5, nearL_len]; rfl
            have OT2 := OT.out
            rw [List.take_of_length_le (by simp [hwl])] at OT2
            have HQ : CO wr w.heap.size 3 q := ⟨by rw [hq]; exact own_base OT2 (by omega), by rw [hq]; exact hwl⟩
            have hqc : encC q = #[.agg #[.int .i64 y0, .slice TA 4 tc]] := by
              rw [hq]
              have : (wordsAt (nearL rs) a).headD 0 = y0 := by
                have := HY0.out
                cases hw : wordsAt (nearL rs) a with
                | nil => rw [hw] at hwl; cases hwl
                | cons z zs => rw [hw] at this; simpa using this
              unfold encC
              simp only [this]
            have HQ1 : Hid (q.1 = wordsAt (nearL rs) a) := Lib.hid (by rw [hq])
            have HYY := HY.out pre q wr (HJ.out _ _ _ HJP.out (KeepT.of_below BL.out)) HQ
            rw [hqc] at HYY
            have xc0 := BX.out.cell (i := 0) rfl
            have xc1 := BX.out.cell (i := 1) rfl
            have HWB := Lib.hid (HWL.out.up BL.out)
            have HXB := Lib.hid (HX.out.up BL.out)
            have HAB := Lib.hid (HAT.out.up BL.out)
            have sB := BL.out.size
            clear hqc hq OT2 OT BX BL hwl HQ
            obtain ⟨wi, rfl⟩ : ∃ x : World, x = wr := ⟨_, rfl⟩
            obtain ⟨fn, tmps, assign, body, hyy, hRN⟩ := HYY
            go_upto_region 12 with fail
            refine (wpIn_wide (n := N)).1 ?_
            gi_wp2
            refine ⟨fun h => absurd h (by decide), hRN.mono ?_⟩
            rintro e W3 (⟨rfl, hJ3, hk3⟩ | ⟨rfl, hJx3⟩)
            · have HW3 := Lib.hid (HWB.out.kp hk3)
              have HX3 := Lib.hid (hk3.blk HXB.out (.inr (.inl rfl)))
              have HA3 : Hid (Blk W3 AT 61 (nv (cB a 5))) := Lib.hid (by rw [cB_full ha5]; exact hk3.blk HAB.out (.inr (.inr rfl)))
              have HJ3 := Lib.hid hJ3
              have HNX0 : Hid (nextN ((lensN (nearL rs)).drop 5) (a.drop 5) = none) := Lib.hid (by rw [List.drop_of_length_le (l := a) (Nat.le_of_eq ha5), List.drop_of_length_le (l := lensN (nearL rs)) (Nat.le_refl 5)]; rfl)
              have HPQ : Hid ((pre ++ [q]).map Prod.fst = ((allN (lensN (nearL rs))).take (k + 1)).map (wordsAt (nearL rs))) := Lib.hid (by
                rw [List.map_append, HN.out, List.take_add_one, HA.out, List.map_append]
                simp [HQ1.out])
              gi_wp2
              clear hyy hRN hk3 hJ3 HWB HXB HAB xc0 xc1 HWL HX HAT HJP HN H5 HX0
              go_wp2_with fail
              obtain ⟨gm0, hgm0⟩ : ∃ x : Nat, x = ga := ⟨_, rfl⟩
              go_loopg [8] 5 (fun gm v wr => ∃ (m : Nat) (z : Int), gm = m ∧ m ≤ 5 ∧ v = .int .i64 z ∧ z = (m : Int) - 1 ∧ Hid (Blk wr AT 61 (nv (cB a m))) ∧ Hid (nextN ((lensN (nearL rs)).drop m) (a.drop m) = none) ∧ Hid (J (pre ++ [q]) wr) ∧ Hid (WL wr (W.heap.size + 1) 3 5 (nearL rs) vs) ∧ Hid (Blk wr W.heap.size 59 vs))
              case atStart => exact ⟨5, 4, rfl, Nat.le_refl _, rfl, rfl, HA3, HNX0, HJ3, HW3, HX3⟩
              case round =>
                clear HA3 HJ3 HW3 HX3 HNX0
                obtain ⟨m, z, rfl, hm5, rfl, hz, HAT, HNX, HJP, HWL, HX⟩ := hrel
                by_cases hm0 : gk = 0
                · subst hm0
                  have hz' : z = -1 := by simpa using hz
                  clear hz
                  subst hz'
                  have HE : Hid ((pre ++ [q]).map Prod.fst = nearAll rs) := Lib.hid (by
                    have hnx := HNX.out
                    rw [List.drop_zero, List.drop_zero] at hnx
                    rw [(allN_step _ (lens_pos rs)).2 k a HA.out] at hnx
                    rw [HPQ.out, List.take_of_length_le (List.getElem?_eq_none_iff.1 hnx)]; rfl)
                  go_upto_region 14 with fail
                  go_quiet (fail)
                  go_wp2
                  go_returns
                  exact ⟨⟨_, rfl⟩, .inl ⟨_, HE.out, HJ.out _ _ _ HJP.out (KeepT.of_below (below_drewN' (Below.refl _ wr) nq))⟩⟩
                · obtain ⟨m, rfl⟩ : ∃ x, gk = x + 1 := ⟨gk - 1, by omega⟩
                  have hz' : z = (m : Int) := by omega
                  clear hz
                  subst hz'
                  have hm4 : m < 5 := by omega
                  obtain ⟨x, bb, oo, cc, nn, y, hx, hlt, hnn, hbwB, hbb, kw, kv, hy, hl0⟩ := five_at (HWL.out.wdB (nearL_len rs) HSM.out HX.out) (Below.refl _ _) HAM.out m hm4
                  have kp := HAT.out.cell (i := m) (nv_at ((cB_at ha5 hm4).trans hx))
                  have kf := HAT.out.free m
                  have f1 : decide ((0 : Int) ≤ (m : Int)) = true := by simp
                  have f2 : IntKind.i64.wrap ((nn : Int) - 1) = (nn : Int) - 1 := by rw [IntKind.wrap_i64]; omega
                  obtain ⟨wi, rfl⟩ : ∃ x : World, x = wr := ⟨_, rfl⟩
                  by_cases hxn : x + 1 < nn
                  · have f3 : ((x : Int) == (nn : Int) - 1) = false := by simp; omega
                    have hne := next_some (ls := lensN (nearL rs)) rfl ha5 hx hl0 hxn HNX.out
                    have HB2 := HAT.out.set_ m (.int .i64 ((x + 1 : Nat) : Int))
                    rw [nv_set, show ((x + 1 : Nat) : Int) = (x : Int) + 1 from by simp] at HB2
                    have f4 : IntKind.i64.wrap ((x : Int) + 1) = (x : Int) + 1 := by rw [IntKind.wrap_i64]; omega
                    have HB3 := Lib.hid HB2
                    have HA2 := (allN_step _ (lens_pos rs)).2 k a HA.out
                    rw [hne] at HA2
                    have HA4 := Lib.hid HA2.symm
                    have hb5 : ((cB a (m + 1)).set m (x + 1)).length = 5 := by rw [List.length_set]; exact cB_len ha5 (by omega)
                    have hkM : k + 1 < M := by rw [HM.out]; exact (List.getElem?_eq_some_iff.1 HA2.symm).1
                    generalize (cB a (m + 1)).set m (x + 1) = a2 at *
                    clear HB2 hne hx hl0 hy hxn hlt kv HA2
                    obtain ⟨ga, rfl⟩ : ∃ y, ga = y + 1 := ⟨ga - 1, by omega⟩
                    go_upto_region 14 with fail
                    go_quiet (fail)
                    go_wp2_with fail
                    go_roundg ga
                    case measure => omega
                    case rel =>
                      go_light
                      have hbd := below_drewN' (Below.refl wi.heap.size wi) nq
                      exact ⟨k + 1, a2, pre ++ [q], by omega, hb5, by simp [hpl], HA4, HPQ, Lib.hid (HJ.out _ _ _ (HJ.out _ _ _ HJP.out (KeepT.of_below hbd)) (KeepT.set_ (HAT.out.up hbd) (by omega) _)), Lib.hid ((HWL.out.up hbd).setB (HAT.out.up hbd) (by decide) _), Lib.hid ((HX.out.up hbd).far (by simp; omega) _), HB3⟩
                  · have f3 : ((x : Int) == (nn : Int) - 1) = true := by simp; omega
                    have HNX2 := Lib.hid (next_none hx hl0 hxn HNX.out)
                    have HB2 := HAT.out.set_ m (.int .i64 ((0 : Nat) : Int))
                    rw [nv_set, cB_set0 ha5 hm4] at HB2
                    have HB3 := Lib.hid HB2
                    clear HB2 hx hl0 hy hxn hlt kv
                    go_upto_region 14 with fail
                    go_quiet (fail)
                    go_wp2_with fail
                    go_roundg m
                    case measure => omega
                    case rel =>
                      go_light
                      have hbd := below_drewN' (Below.refl wi.heap.size wi) nq
                      exact ⟨m, (m : Int) - 1, rfl, by omega, rfl, rfl, HB3, HNX2, Lib.hid (HJ.out _ _ _ (HJ.out _ _ _ HJP.out (KeepT.of_below hbd)) (KeepT.set_ (HAT.out.up hbd) (by omega) _)), Lib.hid ((HWL.out.up hbd).setB (HAT.out.up hbd) (by decide) _), Lib.hid ((HX.out.up hbd).far (by simp; omega) _)⟩
            · have HE : Hid ((pre ++ [q]).map Prod.fst = (nearAll rs).take (pre ++ [q]).length) := Lib.hid (by
                rw [List.map_append, HN.out, List.length_append, List.length_singleton, hpl]
                unfold nearAll
                rw [← List.map_take, List.take_add_one, HA.out, List.map_append]
                simp [HQ1.out])
              gi_wp2
              go_wp2
              go_returns
              exact ⟨⟨_, rfl⟩, .inr ⟨_, HE.out, hJx3⟩⟩
          · obtain ⟨gj, rfl⟩ : ∃ x, gk = x + 1 := ⟨gk - 1, by omega⟩
            have hm4 : m < 4 := by omega
            have f1 : decide ((m : Int) + 1 ≤ 4) = true := by simp; omega
            have f2 : (0 : Int) ≤ (m : Int) + 1 := by omega
            have f3 : (m : Int) + 1 < 5 := by omega
            obtain ⟨x, bb, oo, cc, nn, y, hx, hlt, hnn, hbwB, hbb, kw, kv, hy, hl0⟩ := five_at (HWL.out.wdB (nearL_len rs) HSM.out HX.out) BL.out HAM.out (m + 1) (by omega)
            have kp := (HAT.out.below BL.out (by omega)).cell (i := m + 1) (nv_at hx)
            have HYC : Hid (ints ((wordsAt (nearL rs) a).tail.take m) ++ [.int .i64 y] = ints ((wordsAt (nearL rs) a).tail.take (m + 1))) := Lib.hid (by
              have : (wordsAt (nearL rs) a).tail[m]? = some y := by rw [List.getElem?_tail]; exact hy
              rw [List.take_add_one, this]; simp [ints])
            have xc0 := BX.out.cell (i := 0) rfl
            have xc1 := BX.out.cell (i := 1) rfl
            have xf1 := BX.out.free 1
            have e1 : W.heap.size < wr.heap.size := by omega
            have e3 : bb < wr.heap.size := by omega
            have e5 : AT < wr.heap.size := by omega
            have e6 : W.heap.size ≠ wo.heap.size := by omega
            have e7 : bb ≠ wo.heap.size := by omega
            have e8 : AT ≠ wo.heap.size := by omega
            have HOB : Hid (∀ g, (Value.slice TA m tc).ownBlock = some g → wo.heap.size + 1 ≤ g ∧ g < wr.heap.size) := Lib.hid (fun g e => OT.out.lt g e)
            clear hx hy hl0
            obtain ⟨wi, rfl⟩ : ∃ x : World, x = wr := ⟨_, rfl⟩
            go_upto_region 11 with fail
            refine wp_region_held_drew (S := (fun w' => w'.cell? ⟨W.heap.size, m + 1, none⟩ = some (.slice (some ⟨bb, oo, none⟩) nn cc) ∧ w'.cell? ⟨AT, m + 1, none⟩ = some (.int .i64 x) ∧ w'.cell? ⟨bb, oo + x, none⟩ = some (.int .i64 y))) (by kernel_rfl) ?_ (fun hHeld => ?_)
            · ((try dsimp only); (simp [go_sem, *]))
            refine wpAnyH_take (i := 0) (oi := _) (v := ?_) rfl (by kernel_rfl) (by kernel_rfl) (by kernel_rfl) (fun _ _ _ h => h) (Or.inl ⟨by rfl, ?_⟩) (by assumption) ?_
            rotate_left
            · (intro w hSw; (try dsimp only at hSw); go_simp; (try with_reducible rfl))
            (try simp only [Act.put, List.setIfInBounds_toArray, List.set_cons_zero, List.set_cons_succ])
            refine wpAnyH_take (i := 2) (oi := _) (v := ?_) rfl (by kernel_rfl) (by kernel_rfl) (by kernel_rfl) (fun _ _ _ h => h) (Or.inl ⟨by rfl, ?_⟩) (by assumption) ?_
            rotate_left
            · (intro w hSw; (try dsimp only at hSw); go_simp; (try with_reducible rfl))
            (try simp only [Act.put, List.setIfInBounds_toArray, List.set_cons_zero, List.set_cons_succ])
            refine wpAnyH_take (i := 3) (oi := _) (v := ?_) rfl (by kernel_rfl) (by kernel_rfl) (by kernel_rfl) (fun _ _ _ h => h) (Or.inl ⟨by rfl, ?_⟩) (by assumption) ?_
            rotate_left
            · (intro w hSw; (try dsimp only at hSw); go_simp; (try with_reducible rfl))
            (try simp only [Act.put, List.setIfInBounds_toArray, List.set_cons_zero, List.set_cons_succ])
            refine wpAnyH_take (i := 4) (oi := _) (v := ?_) rfl (by kernel_rfl) (by kernel_rfl) (by kernel_rfl) (fun _ _ _ h => h) (Or.inl ⟨by rfl, ?_⟩) (by assumption) ?_
            rotate_left
            · (intro w hSw; (try dsimp only at hSw); go_simp; (try with_reducible rfl))
            (try simp only [Act.put, List.setIfInBounds_toArray, List.set_cons_zero, List.set_cons_succ])
            refine wpAnyH_take (i := 5) (oi := _) (v := ?_) rfl (by kernel_rfl) (by kernel_rfl) (by kernel_rfl) (fun _ _ _ h => h) (Or.inl ⟨by rfl, ?_⟩) (by assumption) ?_
            rotate_left
            · (intro w hSw; (try dsimp only at hSw); go_simp; (try with_reducible rfl))
            (try simp only [Act.put, List.setIfInBounds_toArray, List.set_cons_zero, List.set_cons_succ])
            refine wpAnyH_take (i := 6) (oi := _) (v := ?_) rfl (by kernel_rfl) (by kernel_rfl) (by kernel_rfl) (fun _ _ _ h => h) (Or.inl ⟨by rfl, ?_⟩) (by assumption) ?_
            rotate_left
            · (intro w hSw; (try dsimp only at hSw); go_simp; (try with_reducible rfl))
            (try simp only [Act.put, List.setIfInBounds_toArray, List.set_cons_zero, List.set_cons_succ])
            refine wpAnyH_take (i := 7) (oi := _) (v := ?_) rfl (by kernel_rfl) (by kernel_rfl) (by kernel_rfl) (fun _ _ _ h => h) (Or.inl ⟨by rfl, ?_⟩) (by assumption) ?_
            rotate_left
            · (intro w hSw; (try dsimp only at hSw); go_simp; (try with_reducible rfl))
            (try simp only [Act.put, List.setIfInBounds_toArray, List.set_cons_zero, List.set_cons_succ])
            refine wpAnyH_take (i := 8) (oi := _) (v := ?_) rfl (by kernel_rfl) (by kernel_rfl) (by kernel_rfl) (fun _ _ _ h => h) (Or.inl ⟨by rfl, ?_⟩) (by assumption) ?_
            rotate_left
            · (intro w hSw; (try dsimp only at hSw); go_simp; (try with_reducible rfl))
            (try simp only [Act.put, List.setIfInBounds_toArray, List.set_cons_zero, List.set_cons_succ])
            refine wpAnyH_take (i := 9) (oi := _) (v := ?_) rfl (by kernel_rfl) (by kernel_rfl) (by kernel_rfl) (fun _ _ _ h => h) (Or.inl ⟨by rfl, ?_⟩) (by assumption) ?_
            rotate_left
            · (intro w hSw; (try dsimp only at hSw); go_simp; (try with_reducible rfl))
            (try simp only [Act.put, List.setIfInBounds_toArray, List.set_cons_zero, List.set_cons_succ])
            refine wpAnyH_ready (rs := [1, 10]) (by kernel_rfl) (by simp) ?_
            refine AllReadyH.cons (o := _) rfl (fun K hK => ?_) ?_
            · go_simp
              refine hK.out _ _ ?_ (fun hHeld => ?_)
              · ((try dsimp only); (simp [go_sem, *]))
              clear hK K
              (try simp only [Act.put, List.setIfInBounds_toArray, List.set_cons_zero, List.set_cons_succ])
              refine wpAnyH_ready (rs := [10]) (by kernel_rfl) (by simp) ?_
              refine AllReadyH.cons (o := _) rfl (fun K hK => ?_) AllReadyH.nil
              go_simp
              refine hK.out _ _ ?_ (fun hHeld => ?_)
              · ((try dsimp only); (simp [go_sem, *]))
              clear hK K
              (try simp only [Act.put, List.setIfInBounds_toArray, List.set_cons_zero, List.set_cons_succ])
              refine wpAnyH_ready (rs := [11]) (by kernel_rfl) (by simp) ?_
              refine AllReadyH.cons (o := _) rfl (fun K hK => ?_) AllReadyH.nil
              (refine step_append_rd _ (by rfl) _ _ _ (by rfl) (wo.heap.size + 1) 3 i0 _ 1 8 Tryd.underlying31 hi0 hz0 hz1 hz2 rfl (by omega) (.slice TA m tc) m (ints ((wordsAt (nearL rs) a).tail.take m)) (by rfl) (own_up OT.out (by go_grown)) _ (some ⟨wi.heap.size, 0, none⟩) 1 1 [.int .i64 y] (by rfl) (rdN_blk (Blk.new wi.drew 3 [.int .i64 y]) rfl) (one_intsN [y]) (by unfold maxLen; omega) (by omega) (by (try simp); omega) ?_; intro A5 c5 w5 ho5 hg5 ha5; have hs5 := hg5.size; (try simp at hs5); have O5 := Lib.hid ho5; have X5 := Lib.hid (((BX.out.drew).alloc (.cells #[.int .i64 y] 3)).gn hg5 (fun e => by have := HOB.out _ e; omega)); have L5 : Hid (Below wo.heap.size wi w5) := Lib.hid ((show Below wo.heap.size wi _ from (show Below wi.heap.size wi (wi.drew.alloc (.cells #[.int .i64 y] 3)) by go_grown).mono (by omega)).grown hg5 (by (try simp); omega) (fun b e => by have := HOB.out b e; omega)); have xc51 := X5.out.cell (i := 1) rfl; have xf51 := X5.out.free 1; have k5w := (L5.out.cell (p := ⟨W.heap.size, m + 1, none⟩) (show W.heap.size < wo.heap.size by omega)).trans kw; have k5p := (L5.out.cell (p := ⟨AT, m + 1, none⟩) (show AT < wo.heap.size by omega)).trans kp; have k5v := (L5.out.cell (p := ⟨bb, oo + x, none⟩) (show bb < wo.heap.size by omega)).trans kv; clear ho5 hg5 ha5)
              refine hK.out _ _ ?_ (fun hHeld => ?_)
              · ((try dsimp only); (simp [go_sem, *]))
              clear hK K
              (try simp only [Act.put, List.setIfInBounds_toArray, List.set_cons_zero, List.set_cons_succ])
              refine wpAnyH_take (i := 12) (oi := _) (v := ?_) rfl (by kernel_rfl) (by kernel_rfl) (by kernel_rfl) (fun _ _ _ h => h) (Or.inl ⟨by rfl, ?_⟩) (by assumption) ?_
              rotate_left
              · (intro w hSw; (try dsimp only at hSw); go_simp; (try with_reducible rfl))
              (try simp only [Act.put, List.setIfInBounds_toArray, List.set_cons_zero, List.set_cons_succ])
              refine wpAnyH_ready (rs := [13]) (by kernel_rfl) (by simp) ?_
              refine AllReadyH.cons (o := _) rfl (fun K hK => ?_) AllReadyH.nil
              go_simp
              refine hK.out _ _ ?_ (fun hHeld => ?_)
              · ((try dsimp only); (simp [go_sem, *]))
              clear hK K
              (try simp only [Act.put, List.setIfInBounds_toArray, List.set_cons_zero, List.set_cons_succ])
              refine wpAnyH_done (by kernel_rfl) ?_ _
              (go_wp2_with fail; go_roundg gj; (case measure => omega); (case rel => go_light; exact ⟨m + 1, A5, c5, by omega, by go_num, Lib.hid (X5.out.set_ 1 _), Lib.hid (by have ho := O5.out; rw [HYC.out] at ho; exact ownsRow_setCell_below ho (a := ⟨wo.heap.size, 1, none⟩) (Nat.lt_succ_self _) _), Lib.hid ((BL.out.trans L5.out).setCell (p := ⟨wo.heap.size, 1, none⟩) (Nat.le_refl _) _), by simp; omega⟩))
            refine AllReadyH.cons (o := _) rfl (fun K hK => ?_) ?_
            · go_simp
              refine hK.out _ _ ?_ (fun hHeld => ?_)
              · ((try dsimp only); (simp [go_sem, *]))
              clear hK K
              (try simp only [Act.put, List.setIfInBounds_toArray, List.set_cons_zero, List.set_cons_succ])
              refine wpAnyH_ready (rs := [1]) (by kernel_rfl) (by simp) ?_
              refine AllReadyH.cons (o := _) rfl (fun K hK => ?_) AllReadyH.nil
              go_simp
              refine hK.out _ _ ?_ (fun hHeld => ?_)
              · ((try dsimp only); (simp [go_sem, *]))
              clear hK K
              (try simp only [Act.put, List.setIfInBounds_toArray, List.set_cons_zero, List.set_cons_succ])
              refine wpAnyH_ready (rs := [11]) (by kernel_rfl) (by simp) ?_
              refine AllReadyH.cons (o := _) rfl (fun K hK => ?_) AllReadyH.nil
              (refine step_append_rd _ (by rfl) _ _ _ (by rfl) (wo.heap.size + 1) 3 i0 _ 1 8 Tryd.underlying31 hi0 hz0 hz1 hz2 rfl (by omega) (.slice TA m tc) m (ints ((wordsAt (nearL rs) a).tail.take m)) (by rfl) (own_up OT.out (by go_grown)) _ (some ⟨wi.heap.size, 0, none⟩) 1 1 [.int .i64 y] (by rfl) (rdN_blk (Blk.new wi.drew 3 [.int .i64 y]) rfl) (one_intsN [y]) (by unfold maxLen; omega) (by omega) (by (try simp); omega) ?_; intro A5 c5 w5 ho5 hg5 ha5; have hs5 := hg5.size; (try simp at hs5); have O5 := Lib.hid ho5; have X5 := Lib.hid (((BX.out.drew).alloc (.cells #[.int .i64 y] 3)).gn hg5 (fun e => by have := HOB.out _ e; omega)); have L5 : Hid (Below wo.heap.size wi w5) := Lib.hid ((show Below wo.heap.size wi _ from (show Below wi.heap.size wi (wi.drew.alloc (.cells #[.int .i64 y] 3)) by go_grown).mono (by omega)).grown hg5 (by (try simp); omega) (fun b e => by have := HOB.out b e; omega)); have xc51 := X5.out.cell (i := 1) rfl; have xf51 := X5.out.free 1; have k5w := (L5.out.cell (p := ⟨W.heap.size, m + 1, none⟩) (show W.heap.size < wo.heap.size by omega)).trans kw; have k5p := (L5.out.cell (p := ⟨AT, m + 1, none⟩) (show AT < wo.heap.size by omega)).trans kp; have k5v := (L5.out.cell (p := ⟨bb, oo + x, none⟩) (show bb < wo.heap.size by omega)).trans kv; clear ho5 hg5 ha5)
              refine hK.out _ _ ?_ (fun hHeld => ?_)
              · ((try dsimp only); (simp [go_sem, *]))
              clear hK K
              (try simp only [Act.put, List.setIfInBounds_toArray, List.set_cons_zero, List.set_cons_succ])
              refine wpAnyH_take (i := 12) (oi := _) (v := ?_) rfl (by kernel_rfl) (by kernel_rfl) (by kernel_rfl) (fun _ _ _ h => h) (Or.inl ⟨by rfl, ?_⟩) (by assumption) ?_
              rotate_left
              · (intro w hSw; (try dsimp only at hSw); go_simp; (try with_reducible rfl))
              (try simp only [Act.put, List.setIfInBounds_toArray, List.set_cons_zero, List.set_cons_succ])
              refine wpAnyH_ready (rs := [13]) (by kernel_rfl) (by simp) ?_
              refine AllReadyH.cons (o := _) rfl (fun K hK => ?_) AllReadyH.nil
              go_simp
              refine hK.out _ _ ?_ (fun hHeld => ?_)
              · ((try dsimp only); (simp [go_sem, *]))
              clear hK K
              (try simp only [Act.put, List.setIfInBounds_toArray, List.set_cons_zero, List.set_cons_succ])
              refine wpAnyH_done (by kernel_rfl) ?_ _
              (go_wp2_with fail; go_roundg gj; (case measure => omega); (case rel => go_light; exact ⟨m + 1, A5, c5, by omega, by go_num, Lib.hid (X5.out.set_ 1 _), Lib.hid (by have ho := O5.out; rw [HYC.out] at ho; exact ownsRow_setCell_below ho (a := ⟨wo.heap.size, 1, none⟩) (Nat.lt_succ_self _) _), Lib.hid ((BL.out.trans L5.out).setCell (p := ⟨wo.heap.size, 1, none⟩) (Nat.le_refl _) _), by simp; omega⟩))
            exact AllReadyH.nil
    · obtain ⟨gk, rfl⟩ : ∃ m, gk = m + 1 := ⟨gk - 1, by omega⟩
      have hk5 : k < 5 := by omega
      have hnw := nearL_at (rs := rs) hk5
      have hbF : Below w.heap.size w wr := HW.out.trans (HF.out.mono sW)
      have HBF := Lib.hid hbF
      have hPB := HP.out.below hbF hbp
      have xp0 := hPB.cell (i := 0) rfl
      have xp1 := hPB.cell (i := 1) rfl
      have HNW := Lib.hid (fun W h => nearWords_c A rs.length c rs e (k : Int) W hn h HBB.out)
      have hpos := nearW_pos rs (k : Int)
      generalize nearW rs (k : Int) = us at *
      clear hbF hPB
      (go_wp2_with fail); (go_at_call 27; refine (HNW.out _ ((HR.out.below HBF.out).more (by omega))).mono ?_; rintro e w1 ⟨A1, c1, rfl, o1, g1⟩; obtain ⟨b1, rfl, hb1, hb1'⟩ := ownN_some o1 hpos; have O1 := Lib.hid (own_base o1 (show W.heap.size + 1 ≤ _ by (try simp); omega)); have G1 : Hid (Below wr.heap.size wr w1) := Lib.hid (below_via (by go_grown) g1); have s1 := g1.size; (try simp at s1); have HX1 := Lib.hid (HX.out.below G1.out (by omega)); clear o1 g1)
      have hxf := HX1.out.free k
      have hxk := HX1.out.cell (i := k) (vsN_at hvl hk5)
      have hlv : (vsN vs k).length = 5 := by unfold vsN; simp; omega
      go_wp2_with fail
      go_roundg gk
      case measure => omega
      case rel =>
        go_light
        refine ⟨k + 1, vs ++ [.slice (some ⟨b1, 0, none⟩) us.length c1], by omega, by go_num, by simp; omega, Lib.hid (by rw [← vsN_set hvl hk5]; exact HX1.out.set_ k _), Lib.hid (((HWL.out.up G1.out).snoc hvl hnw O1.out).setB HX1.out (by decide) _), Lib.hid ((show Below W.heap.size W w1 from below_via HF.out G1.out).setCell (p := ⟨W.heap.size, k, none⟩) (Nat.le_refl _) _), by simp; omega⟩
end Go.Proofs.YtmfienlceobfeaaDoor
