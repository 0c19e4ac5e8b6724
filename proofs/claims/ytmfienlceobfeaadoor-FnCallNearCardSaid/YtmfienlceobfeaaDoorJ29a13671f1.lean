/- nearWords: the program's words near what a policy looks at, in a field. Conditions: each contract's own. -/
import Derived.Test.YtmfienlceobfeaaDoorJe8a9cf4f7c
import Derived.Test.YtmfienlceobfeaaDoorJ41a7150f06
import Derived.Test.YtmfienlceobfeaaDoorJa9929500b3
import Derived.Deep.LoopGhost
import Derived.Deep.DeepCutAuto
namespace Go.Proofs.YtmfienlceobfeaaDoor
set_option linter.unusedSimpArgs false
open Go.RowKit
set_option linter.unusedVariables false
set_option linter.unnecessarySimpa false
set_option maxRecDepth 20000
theorem ownN_some {w : World} {base e n c : Nat} {A : Option Addr} {xs : List Value} (h : w.ownsRow base e 1 (.slice A n c) n xs) (hn : 0 < n) : ∃ g, A = some ⟨g, 0, none⟩ ∧ base ≤ g ∧ g < w.heap.size := by
  rcases h.2 with ⟨_, h0⟩ | ⟨g, cap, cur, hv, hb, hh, _⟩
  · omega
  · injection hv with a b c
    exact ⟨g, a, hb, (Array.getElem?_eq_some_iff.1 hh).1⟩
theorem own_newN (w : World) (e : TypeId) (B : Nat) (hB : B ≤ w.heap.size) (n : Nat) (xs : List Value) (hn : xs.length = n) (h1 : ∀ u ∈ xs, u.oneCell' = true) (hm : n ≤ 1000000) : (w.alloc (.cells xs.toArray e)).ownsRow B e 1 (.slice (some ⟨w.heap.size, 0, none⟩) n n) n xs :=
  ⟨by omega, .inr ⟨w.heap.size, n, xs.toArray, rfl, hB, heap_alloc_new w _, by omega, by unfold maxLen; omega, by simp; omega, by simp [← hn]⟩⟩
theorem rawR_zero {f : Int} (hf : f = 0) (r : Rl) : rawR f r = [r.lo - 1, r.lo, r.hi, r.hi + 1] := by unfold rawR; rw [if_pos hf]
theorem rawR_other {f : Int} (hf : ¬ f = 0) (r : Rl) : rawR f r = r.ts.flatMap (rawT f) := by unfold rawR; rw [if_neg hf]
theorem rawT_yes {f : Int} {t : Tst} (h : t.f = f) : rawT f t = [t.x - 1, t.x, t.x + 1] := by unfold rawT; rw [if_pos h]
theorem rawT_no {f : Int} {t : Tst} (h : ¬ t.f = f) : rawT f t = [] := by unfold rawT; rw [if_neg h]
set_option maxHeartbeats 8000000 in
set_option maxRecDepth 100000 in
theorem nearWords_c (A : Option Addr) (n c : Nat) (rs : List Rl) (e f : Int) (w : World) (hn : n ≤ 8) (hr : RdR w w.heap.size A n rs) (hB : rs.all ruleB = true) :
    Calls Tryd.prog 27 #[.agg #[.slice A n c, .int .i64 e], .int .i64 f] w (RetOwn 3 1 (nearW rs f).length (ints (nearW rs f)) w) := by
  obtain ⟨i0, hi0, hz0, hz1, hz2⟩ := info_parts info_int
  have hl1 := hr.1
  subst hl1
  have HR := Lib.hid hr
  have HTS : Hid (∀ r ∈ rs, r.ts.length ≤ 4 ∧ 0 ≤ r.lo ∧ r.lo ≤ 4294967295 ∧ 0 ≤ r.hi ∧ r.hi ≤ 4294967295 ∧ ∀ t ∈ r.ts, 0 ≤ t.x ∧ t.x ≤ 4294967295) := Lib.hid (fun r hr => by
    rw [List.all_eq_true] at hB
    obtain ⟨_, h1, h2, h3, h4, h5⟩ := rule_and (hB r hr)
    rw [List.all_eq_true] at h5
    refine ⟨h4, h1, by omega, by omega, h3, fun t ht => ?_⟩
    have := tst_and (h5 t ht)
    omega)
  have HU := Lib.hid (uniq_near rs f)
  clear hr hB
  go_enter Tryd.func27, Tryd.ntmps27
  have HO0 : Hid (((w.alloc (.cells #[.slice A rs.length c, .int .i64 e] 25)).alloc (.cells #[.int .i64 0] 3)).ownsRow (w.heap.size + 1) 3 1 (.slice (some ⟨w.heap.size + 1, 0, none⟩) [(0 : Int)].length 1) [(0 : Int)].length (ints [0])) := Lib.hid (by simpa [ints] using own_newN (w.alloc (.cells #[.slice A rs.length c, .int .i64 e] 25)) 3 (w.heap.size + 1) (by simp) 1 [.int .i64 0] rfl (one_intsN [0]) (by omega))
  go_wp2_with fail
  go_loopg [5, 14] rs.length (fun gk v i wr => ∃ (k : Nat) (A' : Option Addr) (c' : Nat) (zs : List Int), gk + k = rs.length ∧ i = .int .i64 k ∧ v = .slice A' zs.length c' ∧ 0 < zs.length ∧ zs.length ≤ 1 + 12 * k ∧ Hid (zs = 0 :: rawW f (rs.take k)) ∧ Hid (wr.ownsRow (w.heap.size + 1) 3 1 (.slice A' zs.length c') zs.length (ints zs)) ∧ Hid (Below w.heap.size w wr) ∧ w.heap.size + 1 ≤ wr.heap.size)
  case atStart => exact ⟨0, _, 1, [0], by omega, rfl, rfl, by simp, by simp, Lib.hid (by simp [rawW]), HO0, Lib.hid (by go_grown), by simp⟩
  case round =>
    obtain ⟨k, A', c', zs, hgk, rfl, rfl, hzp, hzl, HZ, HO, HF, hsz⟩ := hrel
    have hbs := HF.out.size
    by_cases hk : gk = 0
    · subst hk
      obtain rfl : k = rs.length := by omega
      rw [List.take_length] at HZ
      obtain ⟨g, rfl, hg1, hg2⟩ := ownN_some HO.out hzp
      have hfl : (zs.filter wordB).length ≤ zs.length := List.length_filter_le _ _
      have HD := Lib.hid (fun W h => deleteInts_c g zs.length c' zs (w.heap.size + 1) W h (by omega))
      generalize hfs : zs.filter wordB = fs at *
      have HS := Lib.hid (fun W h => sortInts_c (.slice (some ⟨g, 0, none⟩) fs.length c') fs.length fs (w.heap.size + 1) W h (by omega))
      have hC := fun W h => compactInts_c (some ⟨g, 0, none⟩) fs.length c' (sortI fs) (w.heap.size + 1) W h (by omega)
      rw [show Lib.compact (sortI fs) = nearW rs f from by rw [← hfs, HZ.out]; exact HU.out] at hC
      have HC := Lib.hid hC
      clear hC HU hfs
      generalize nearW rs f = us at *
      (go_wp2_with fail); (go_at_call 33; refine (HD.out _ HO.out).mono ?_; rintro e w5 ⟨rfl, o5, g5⟩; have O5 := Lib.hid o5; have L5 := Lib.hid (HF.out.grown g5 hbs (fun b e => by have := (HO.out.lt b e).1; omega)); have hs5 := g5.size; clear o5 g5)
      (go_wp2_with fail); (go_at_call 35; refine (HS.out _ O5.out).mono ?_; rintro e w6 ⟨rfl, o6, g6⟩; have O6 := Lib.hid o6; have L6 := Lib.hid (L5.out.grown g6 (by omega) (fun b e => by have := (O5.out.lt b e).1; omega)); have hs6 := g6.size; clear o6 g6)
      (go_wp2_with fail); (go_at_call 36; refine (HC.out _ O6.out).mono ?_; rintro e w7 ⟨rfl, o7, g7⟩; have O7 := Lib.hid o7; have L7 := Lib.hid (L6.out.grown g7 (by omega) (fun b e => by have := (O6.out.lt b e).1; omega)); clear o7 g7)
      go_wp2
      go_returns
      exact ⟨_, c', rfl, own_base O7.out (by omega), L7.out⟩
    · obtain ⟨gk, rfl⟩ : ∃ m, gk = m + 1 := ⟨gk - 1, by omega⟩
      have hlt : k < rs.length := by omega
      obtain ⟨b, off, r, rfl, hb, hp, TA, tc, e0, e1, e2, e3, hrt, hrl⟩ := HR.out.rl hlt
      have c0 := (HF.out.cell (p := ⟨b, off + k * 4, none⟩) hb).trans e0
      have c1 := (HF.out.cell (p := ⟨b, off + k * 4 + 1, none⟩) hb).trans e1
      have c2 := (HF.out.cell (p := ⟨b, off + k * 4 + 2, none⟩) hb).trans e2
      have c3 := (HF.out.cell (p := ⟨b, off + k * 4 + 3, none⟩) hb).trans e3
      clear e0 e1 e2 e3
      have hb2 : b < wr.heap.size := by omega
      have HT0 : Hid (Rd w w.heap.size 4 TA r.ts.length (tsts r.ts)) := Lib.hid hrt
      obtain ⟨h4, l0, l1, u0, u1, htx⟩ := HTS.out r (List.mem_of_getElem? hp)
      have HTX := Lib.hid htx
      have HFA := Lib.hid (rawW_take (f := f) hp)
      have HX := Lib.hid (Blk.new wr 37 [.int .i64 r.v, .int .i64 r.lo, .int .i64 r.hi, .slice TA r.ts.length tc])
      clear hp hrt htx
      obtain ⟨ga, rfl⟩ : ∃ x : Nat, x = gk := ⟨_, rfl⟩
      obtain ⟨wo, rfl⟩ : ∃ x : World, x = wr := ⟨_, rfl⟩
      by_cases hf : f = 0
      · have f1 : (f == 0) = true := by simpa using hf
        have HRU := Lib.hid (rawR_zero hf r)
        subst hf
        have kw1 : IntKind.i64.wrap (r.lo - 1) = r.lo - 1 := by rw [IntKind.wrap_i64]; omega
        have kw2 : IntKind.i64.wrap (r.hi + 1) = r.hi + 1 := by rw [IntKind.wrap_i64]; omega
        have HCC : Hid (Rd ((wo.alloc (.cells #[.int .i64 r.v, .int .i64 r.lo, .int .i64 r.hi, .slice TA r.ts.length tc] 37)).alloc (.cells #[.int .i64 (r.lo - 1), .int .i64 r.lo, .int .i64 r.hi, .int .i64 (r.hi + 1)] 3)) (wo.heap.size + 1 + 1) 1 (some ⟨wo.heap.size + 1, 0, none⟩) 4 [.int .i64 (r.lo - 1), .int .i64 r.lo, .int .i64 r.hi, .int .i64 (r.hi + 1)]) := Lib.hid (rd_new (w := wo.alloc (.cells #[.int .i64 r.v, .int .i64 r.lo, .int .i64 r.hi, .slice TA r.ts.length tc] 37)) (by simp) 3 1 4 [.int .i64 (r.lo - 1), .int .i64 r.lo, .int .i64 r.hi, .int .i64 (r.hi + 1)] rfl)
        have HOW := Lib.hid (own_up HO.out (w' := (wo.alloc (.cells #[.int .i64 r.v, .int .i64 r.lo, .int .i64 r.hi, .slice TA r.ts.length tc] 37)).alloc (.cells #[.int .i64 (r.lo - 1), .int .i64 r.lo, .int .i64 r.hi, .int .i64 (r.hi + 1)] 3)) (by go_grown))
        have hob : ∀ b, (Value.slice A' zs.length c').ownBlock = some b → w.heap.size + 1 ≤ b ∧ b < wo.heap.size := fun b hb => HO.out.lt b hb
        have HOB := Lib.hid hob
        clear hob
        go_wp2_with (at_builtin; go_must (refine wpList_append_rd _ rfl _ _ 31 rfl (w.heap.size + 1) 3 i0 _ 1 8 Tryd.underlying31 hi0 hz0 hz1 hz2 rfl (by omega) (.slice A' zs.length c') zs.length (ints zs) rfl HOW.out _ (some ⟨wo.heap.size + 1, 0, none⟩) 4 4 _ rfl HCC.out (one_intsN [r.lo - 1, r.lo, r.hi, r.hi + 1]) (by unfold maxLen; omega) (by omega) (by simp; omega) ?_; intro A5 c5 w5 ho5 hg5 ha5; have hs5 := hg5.size; (try simp at hs5); have O5 := Lib.hid ho5; have L5 := Lib.hid ((show Below w.heap.size w _ from below_via HF.out (by go_grown)).grown hg5 (by (try simp); omega) (fun b e => by have := (HOB.out b e).1; omega)); clear ho5 hg5 ha5))
        go_roundg ga
        case measure => omega
        case rel =>
          go_light
          have e1 : (zs ++ [r.lo - 1, r.lo, r.hi, r.hi + 1]).length = zs.length + 4 := by simp
          refine ⟨k + 1, A5, c5, zs ++ [r.lo - 1, r.lo, r.hi, r.hi + 1], by omega, by go_num, by rw [e1], by omega, by rw [e1]; omega, ?_, ?_, L5, by omega⟩
          · show _ = _
            rw [HFA.out, HRU.out, HZ.out]; simp
          · have := O5.out
            rw [show ([.int .i64 (r.lo - 1), .int .i64 r.lo, .int .i64 r.hi, .int .i64 (r.hi + 1)] : List Value) = ints [r.lo - 1, r.lo, r.hi, r.hi + 1] from rfl, ints_app] at this
            rw [e1]
            exact Lib.hid this
      · have f1 : (f == 0) = false := by simpa using hf
        have HRU := Lib.hid (rawR_other hf r)
        clear hf
        have x53 := HX.out.cell (i := 3) rfl
        have zW : wo.heap.size < (wo.alloc (.cells #[.int .i64 r.v, .int .i64 r.lo, .int .i64 r.hi, .slice TA r.ts.length tc] 37)).heap.size := by (try simp) <;> omega
        go_wp2_with fail
        go_loopg [5, 36] r.ts.length (fun gj v j wr => ∃ (m : Nat) (A' : Option Addr) (c' : Nat) (ys : List Int), gj + m = r.ts.length ∧ j = .int .i64 m ∧ v = .slice A' ys.length c' ∧ 0 < ys.length ∧ ys.length ≤ 1 + 12 * k + 3 * m ∧ Hid (ys = zs ++ (r.ts.take m).flatMap (rawT f)) ∧ Hid (wr.ownsRow (w.heap.size + 1) 3 1 (.slice A' ys.length c') ys.length (ints ys)) ∧ Hid (Below w.heap.size w wr) ∧ wo.heap.size < wr.heap.size)
        case atStart => exact ⟨0, A', c', zs, by omega, rfl, rfl, hzp, by omega, Lib.hid (by simp), Lib.hid (own_up HO.out (by go_grown)), Lib.hid (show Below w.heap.size w _ from below_via HF.out (by go_grown)), zW⟩
        case round =>
          obtain ⟨m, A', c', ys, hgm, rfl, rfl, hy1, hyl, HY, HO', HF', hsz'⟩ := hrel
          have hbs' := HF'.out.size
          by_cases hj : gk = 0
          · subst hj
            obtain rfl : m = r.ts.length := by omega
            rw [List.take_length] at HY
            have HN : Hid (ys = 0 :: rawW f (rs.take (k + 1))) := Lib.hid (by rw [HY.out, HFA.out, HRU.out, HZ.out]; try simp)
            go_wp2
            go_roundg ga
            case measure => omega
            case rel =>
              go_light
              exact ⟨k + 1, A', c', ys, by omega, by go_num, rfl, hy1, by omega, HN, HO', HF', by omega⟩
          · obtain ⟨gk, rfl⟩ : ∃ x, gk = x + 1 := ⟨gk - 1, by omega⟩
            have hlm : m < r.ts.length := by omega
            have hrt2 : Rd wr w.heap.size 4 TA r.ts.length (tsts r.ts) := HT0.out.below HF'.out
            obtain ⟨tb, toff, t, rfl, htb, ht, t0, t1, t2, t3⟩ := hrt2.tst hlm
            have HTK := Lib.hid (rawT_take (f := f) ht)
            obtain ⟨x0, x1⟩ := HTX.out t (List.mem_of_getElem? ht)
            have kw3 : IntKind.i64.wrap (t.x - 1) = t.x - 1 := by rw [IntKind.wrap_i64]; omega
            have kw4 : IntKind.i64.wrap (t.x + 1) = t.x + 1 := by rw [IntKind.wrap_i64]; omega
            clear ht hrt2
            by_cases hft : t.f = f
            · have f2 : (t.f == f) = true := by simpa using hft
              have HRT := Lib.hid (rawT_yes hft)
              have HCC2 : Hid (Rd ((wr.alloc (.cells #[.int .i64 t.f, .int .i64 t.m, .int .i64 t.op, .int .i64 t.x] 52)).alloc (.cells #[.int .i64 (t.x - 1), .int .i64 t.x, .int .i64 (t.x + 1)] 3)) (wr.heap.size + 1 + 1) 1 (some ⟨wr.heap.size + 1, 0, none⟩) 3 [.int .i64 (t.x - 1), .int .i64 t.x, .int .i64 (t.x + 1)]) := Lib.hid (rd_new (w := wr.alloc (.cells #[.int .i64 t.f, .int .i64 t.m, .int .i64 t.op, .int .i64 t.x] 52)) (by simp) 3 1 3 [.int .i64 (t.x - 1), .int .i64 t.x, .int .i64 (t.x + 1)] rfl)
              have HOW2 := Lib.hid (own_up HO'.out (w' := (wr.alloc (.cells #[.int .i64 t.f, .int .i64 t.m, .int .i64 t.op, .int .i64 t.x] 52)).alloc (.cells #[.int .i64 (t.x - 1), .int .i64 t.x, .int .i64 (t.x + 1)] 3)) (by go_grown))
              have hob2 : ∀ b, (Value.slice A' ys.length c').ownBlock = some b → w.heap.size + 1 ≤ b := fun b hb => (HO'.out.lt b hb).1
              have HOB2 := Lib.hid hob2
              clear hob2 hft
              go_wp2_with (at_builtin; go_must (refine wpList_append_rd _ rfl _ _ 31 rfl (w.heap.size + 1) 3 i0 _ 1 8 Tryd.underlying31 hi0 hz0 hz1 hz2 rfl (by omega) (.slice A' ys.length c') ys.length (ints ys) rfl HOW2.out _ (some ⟨wr.heap.size + 1, 0, none⟩) 3 3 _ rfl HCC2.out (one_intsN [t.x - 1, t.x, t.x + 1]) (by unfold maxLen; omega) (by omega) (by simp; omega) ?_; intro A6 c6 w6 ho6 hg6 ha6; have hs6 := hg6.size; (try simp at hs6); have O6 := Lib.hid ho6; have L6 := Lib.hid ((show Below w.heap.size w _ from below_via HF'.out (by go_grown)).grown hg6 (by (try simp); omega) (fun b e => by have := HOB2.out b e; omega)); clear ho6 hg6 ha6))
              go_roundg gk
              case measure => omega
              case rel =>
                go_light
                have e1 : (ys ++ [t.x - 1, t.x, t.x + 1]).length = ys.length + 3 := by simp
                refine ⟨m + 1, A6, c6, ys ++ [t.x - 1, t.x, t.x + 1], by omega, by go_num, by rw [e1], by omega, by rw [e1]; omega, ?_, ?_, L6, by omega⟩
                · show _ = _
                  rw [HTK.out, HRT.out, HY.out]; simp
                · have := O6.out
                  rw [show ([.int .i64 (t.x - 1), .int .i64 t.x, .int .i64 (t.x + 1)] : List Value) = ints [t.x - 1, t.x, t.x + 1] from rfl, ints_app] at this
                  rw [e1]
                  exact Lib.hid this
            · have f2 : (t.f == f) = false := by simpa using hft
              have HRT := Lib.hid (rawT_no hft)
              clear hft
              go_wp2_with fail
              go_roundg gk
              case measure => omega
              case rel =>
                go_light
                refine ⟨m + 1, A', c', ys, by omega, by go_num, rfl, hy1, by omega, ?_, Lib.hid (own_up HO'.out (by go_grown)), Lib.hid (show Below w.heap.size w _ from below_via HF'.out (by go_grown)), by simp; omega⟩
                show _ = _
                rw [HTK.out, HRT.out, HY.out]; simp
end Go.Proofs.YtmfienlceobfeaaDoor
