/- The specification's PolicyUses. Conditions: each contract's own. -/
import Derived.Test.YtljgaepgblakhaaDoorJ5e12b11546
namespace Go.Proofs.YtljgaepgblakhaaDoor
set_option linter.unusedSimpArgs false
open Go.RowKit
set_option linter.unusedVariables false
set_option linter.unnecessarySimpa false
set_option maxRecDepth 20000
/-- Whether a rule is not for all numbers. -/
def numU (r : Rl) : Bool := decide (0 < r.lo) || decide (r.hi < 4294967295)
theorem mem_rU (f : Int) (r : Rl) : decide (f ∈ rU r) = ((decide (f = 0) && numU r) || decide (f ∈ r.ts.map Tst.f)) := by
  unfold rU numU
  by_cases h : 0 < r.lo ∨ r.hi < 4294967295
  · rw [if_pos h]
    have : (decide (0 < r.lo) || decide (r.hi < 4294967295)) = true := by simpa using h
    rw [this, Bool.and_true]
    simp [Bool.decide_or]
  · rw [if_neg h]
    have : (decide (0 < r.lo) || decide (r.hi < 4294967295)) = false := by simp; omega
    rw [this, Bool.and_false, Bool.false_or, List.nil_append]
theorem mem_flds {rs : List Rl} {k : Nat} {r : Rl} (h : rs[k]? = some r) (f : Int) : decide (f ∈ flds (rs.take (k + 1))) = ((decide (f ∈ flds (rs.take k)) || (decide (f = 0) && numU r)) || decide (f ∈ r.ts.map Tst.f)) := by
  rw [flds_at h, Bool.or_assoc, ← mem_rU]
  simp [Bool.decide_or]
theorem mem_tsf {ts : List Tst} {m : Nat} {t : Tst} (h : ts[m]? = some t) (f : Int) : decide (f ∈ (ts.take (m + 1)).map Tst.f) = (decide (f ∈ (ts.take m).map Tst.f) || decide (t.f = f)) := by
  rw [List.take_add_one, h]
  rw [Bool.eq_iff_iff]
  simp only [Option.toList, List.map_append, List.map_cons, List.map_nil, List.mem_append, List.mem_singleton, Bool.or_eq_true, decide_eq_true_eq]
  exact or_congr Iff.rfl eq_comm
theorem uses_step (rs : List Rl) (k : Nat) (hk : k < 5) : (([0, 1, 2, 3, 4] : List Int).take (k + 1)).filter (fun f => decide (f ∈ flds rs)) = (([0, 1, 2, 3, 4] : List Int).take k).filter (fun f => decide (f ∈ flds rs)) ++ (if decide ((k : Int) ∈ flds rs) = true then [(k : Int)] else []) := by
  have h : ([0, 1, 2, 3, 4] : List Int)[k]? = some (k : Int) := by
    have : k = 0 ∨ k = 1 ∨ k = 2 ∨ k = 3 ∨ k = 4 := by omega
    rcases this with rfl | rfl | rfl | rfl | rfl <;> rfl
  rw [List.take_add_one, h, List.filter_append]
  congr 1
  simp only [Option.toList, List.filter_cons, List.filter_nil]
set_option maxHeartbeats 8000000 in
set_option maxRecDepth 100000 in
theorem specPolicyUses_yes (A : Option Addr) (n c : Nat) (rs : List Rl) (e : Int) (w : World) (hn : n ≤ 9223372036854775807) (hr : RdR w w.heap.size A n rs) (h1 : polOk ⟨rs, e⟩ = true) :
    Calls Tryd.prog 35 #[.agg #[.slice A n c, .int .i64 e]] w (RetOwn 3 1 (usesR rs).length (ints (usesR rs)) w) := by
  obtain ⟨i0, hi0, hz0, hz1, hz2⟩ := info_parts info_int
  have hl1 := hr.1
  subst hl1
  have HR := Lib.hid hr
  have hA8 := (polOk_rules h1).1
  have HTS := Lib.hid (polOk_ts h1)
  have hO1 := fun W h => specPolicyOk_c A rs.length c rs e W h hn
  rw [h1] at hO1
  have HO1 := Lib.hid hO1
  have HB := Lib.hid ((Blk.new w 25 [.slice A rs.length c, .int .i64 e]).alloc (.cells #[] 3))
  clear hr hO1 h1
  have hE := own_new0 (w.alloc (.cells #[.slice A rs.length c, .int .i64 e] 25)) 3 (w.heap.size + 1) 1 (by simp)
  simp only [World.size_alloc] at hE
  have HE := Lib.hid hE
  clear hE
  go_enter Tryd.func35, Tryd.ntmps35
  (go_wp2_with fail); (go_at_call 18; refine (HO1.out _ (HR.out.upB (by go_grown) (by go_size))).mono ?_; rintro e w1 ⟨rfl, b1⟩; have B1 := Lib.hid (HB.out.up b1); have E1 := Lib.hid (own_up HE.out b1); obtain ⟨gc1, gf1⟩ := below_get b1; (try simp only [heap_drew, World.size_alloc, World.size_setCell] at gc1 gf1); have s1 := below_via (w := w) (by go_grown) b1; have H1 := s1; have hs1 := b1.size; (try simp at hs1); have z1_0 : w.heap.size < w1.heap.size := (by omega); have z1_1 : w.heap.size + 1 < w1.heap.size := (by omega); clear b1; have L1 := Lib.hid H1)
  go_wp2_with fail
  clear gc1 gf1 s1 H1 HB HE
  go_loopg [3, 4] 5 (fun gk v i wr => ∃ (k : Nat) (A' : Option Addr) (c' : Nat) (zs : List Int), gk + k = 5 ∧ i = .int .i64 k ∧ v = .slice A' zs.length c' ∧ zs.length ≤ k ∧ Hid (zs = (([0, 1, 2, 3, 4] : List Int).take k).filter fun f => decide (f ∈ flds rs)) ∧ Hid (wr.ownsRow (w.heap.size + 1) 3 1 (.slice A' zs.length c') zs.length (ints zs)) ∧ Hid (Blk wr w.heap.size 25 [.slice A rs.length c, .int .i64 e]) ∧ Hid (Below w.heap.size w wr))
  case atStart => exact ⟨0, _, _, [], by omega, rfl, rfl, by simp, Lib.hid rfl, E1, B1, L1⟩
  case round =>
    obtain ⟨k, A', c', zs, hgk, rfl, rfl, hzl, HZ, HO, HB, HF⟩ := hrel
    have hbs := HF.out.size
    have p0 := HB.out.cell (i := 0) rfl
    have pz := HB.out.lt
    by_cases hk : gk = 0
    · subst hk
      obtain rfl : k = 5 := by omega
      have HN : Hid (zs = usesR rs) := Lib.hid HZ.out
      go_wp2
      go_returns
      have h := HO.out
      have hz := HN.out
      subst hz
      exact ⟨A', c', rfl, own_base h (by omega), HF.out⟩
    · obtain ⟨gk, rfl⟩ : ∃ m, gk = m + 1 := ⟨gk - 1, by omega⟩
      have hk5 : k < 5 := by omega
      have HST := Lib.hid (uses_step rs k hk5)
      obtain ⟨ga, rfl⟩ : ∃ x : Nat, x = gk := ⟨_, rfl⟩
      obtain ⟨wo, rfl⟩ : ∃ x : World, x = wr := ⟨_, rfl⟩
      have hob : ∀ b, (Value.slice A' zs.length c').ownBlock = some b → w.heap.size + 1 ≤ b := fun b hb => (HO.out.lt b hb).1
      have HOB := Lib.hid hob
      clear hob
      go_wp2
      go_loopg [5, 6] rs.length (fun gj u i wr => ∃ (j : Nat), gj + j = rs.length ∧ i = .int .i64 j ∧ u = .bool (decide ((k : Int) ∈ flds (rs.take j))) ∧ Hid (Below wo.heap.size wo wr))
      case atStart => exact ⟨0, by omega, rfl, by simp [flds], Lib.hid (Below.refl _ _)⟩
      case round =>
        obtain ⟨j, hgj, rfl, rfl, HF2⟩ := hrel
        have hbs2 := HF2.out.size
        clear p0
        have p0 := (HB.out.up HF2.out).cell (i := 0) rfl
        by_cases hj : gk = 0
        · subst hj
          obtain rfl : j = rs.length := by omega
          rw [List.take_length]
          cases hu : decide ((k : Int) ∈ flds rs) with
          | false =>
            have HN : Hid (zs = (([0, 1, 2, 3, 4] : List Int).take (k + 1)).filter fun f => decide (f ∈ flds rs)) := Lib.hid (by rw [HST.out, hu, HZ.out]; simp)
            clear hu
            go_wp2
            go_roundg ga
            case measure => omega
            case rel =>
              go_light
              exact ⟨k + 1, A', c', zs, by omega, by go_num, rfl, by omega, HN, own_up HO.out HF2.out, HB.out.up HF2.out, Lib.hid (HF.out.trans (HF2.out.mono (by omega)))⟩
          | true =>
            have HN : Hid (zs ++ [(k : Int)] = (([0, 1, 2, 3, 4] : List Int).take (k + 1)).filter fun f => decide (f ∈ flds rs)) := Lib.hid (by rw [HST.out, hu, HZ.out]; simp)
            clear hu
            have HCC : Hid (Rd (wr.alloc (.cells #[.int .i64 (k : Int)] 3)) (wr.heap.size + 1) 1 (some ⟨wr.heap.size, 0, none⟩) 1 [.int .i64 (k : Int)]) := Lib.hid (rd_new (w := wr) rfl 3 1 1 [.int .i64 (k : Int)] rfl)
            have HOW := Lib.hid (own_up (own_up HO.out HF2.out) (w' := wr.alloc (.cells #[.int .i64 (k : Int)] 3)) (by go_grown))
            go_wp2_with (at_builtin; go_must (refine wpList_append_rd _ rfl _ _ 26 rfl (w.heap.size + 1) 3 i0 _ 1 8 Tryd.underlying26 hi0 hz0 hz1 hz2 rfl (by omega) (.slice A' zs.length c') zs.length (ints zs) rfl HOW.out _ (some ⟨wr.heap.size, 0, none⟩) 1 1 _ rfl HCC.out (one_int (k : Int)) (by unfold maxLen; omega) (by omega) (by simp; omega) ?_; intro A5 c5 w5 ho5 hg5 ha5; have hs5 := hg5.size; (try simp at hs5); have O5 := Lib.hid ho5; have B5 := Lib.hid (((HB.out.up HF2.out).alloc _).gn hg5 (fun e => by have := HOB.out _ e; omega)); have L5 := Lib.hid ((show Below w.heap.size w _ from below_via (HF.out.trans (HF2.out.mono (by omega))) (by go_grown)).grown hg5 (by (try simp); omega) (fun b e => by have := HOB.out b e; omega)); clear ho5 hg5 ha5))
            go_roundg ga
            case measure => omega
            case rel =>
              go_light
              have e1 : (zs ++ [(k : Int)]).length = zs.length + 1 := by simp
              exact ⟨k + 1, A5, c5, zs ++ [(k : Int)], by omega, by go_num, by rw [e1], by rw [e1]; omega, HN, Lib.hid (own_cast O5.out (by rw [ints_add]) e1), B5, L5⟩
        · obtain ⟨gk, rfl⟩ : ∃ x, gk = x + 1 := ⟨gk - 1, by omega⟩
          have hlt : j < rs.length := by omega
          obtain ⟨b, off, r, rfl, hb, hp, TA, tc, e0, e1, e2, e3, hrt, hrl⟩ := HR.out.rl hlt
          have HFW := Lib.hid (HF.out.trans (HF2.out.mono (show w.heap.size ≤ wo.heap.size by omega)))
          have c0 := (HFW.out.cell (p := ⟨b, off + j * 4, none⟩) hb).trans e0
          have c1 := (HFW.out.cell (p := ⟨b, off + j * 4 + 1, none⟩) hb).trans e1
          have c2 := (HFW.out.cell (p := ⟨b, off + j * 4 + 2, none⟩) hb).trans e2
          have c3 := (HFW.out.cell (p := ⟨b, off + j * 4 + 3, none⟩) hb).trans e3
          have hb2 : b < wr.heap.size := by omega
          have HT0 : Hid (Rd w w.heap.size 4 TA r.ts.length (tsts r.ts)) := Lib.hid hrt
          have h4 := HTS.out r (List.mem_of_getElem? hp)
          have HFA := Lib.hid (mem_flds hp (k : Int))
          have HX := Lib.hid (Blk.new wr 35 [.int .i64 r.v, .int .i64 r.lo, .int .i64 r.hi, .slice TA r.ts.length tc])
          have HLX := Lib.hid (show Below wo.heap.size wo (wr.alloc (.cells #[.int .i64 r.v, .int .i64 r.lo, .int .i64 r.hi, .slice TA r.ts.length tc] 35)) from Below.alloc HF2.out hbs2 _)
          clear hp hrt e0 e1 e2 e3
          generalize decide ((k : Int) ∈ flds (rs.take j)) = u0 at *
          go_upto_region 12 with (fail)
          go_cut [5] (fun v5 wx => v5 = .bool (u0 || (decide ((k : Int) = 0) && numU r)) ∧ wx = wr.alloc (.cells #[.int .i64 r.v, .int .i64 r.lo, .int .i64 r.hi, .slice TA r.ts.length tc] 35))
          case first =>
            cases u0 with
            | true =>
              go_wp2
              go_meet
              exact ⟨by simp, rfl⟩
            | false =>
              by_cases hk0 : k = 0
              · subst hk0
                by_cases hlo : 0 < r.lo
                · have f1 : decide (0 < r.lo) = true := by simpa using hlo
                  have HNU : Hid (numU r = true) := Lib.hid (by unfold numU; rw [f1]; rfl)
                  clear hlo
                  go_wp2
                  go_meet
                  exact ⟨by rw [HNU.out]; rfl, rfl⟩
                · have f1 : decide (0 < r.lo) = false := by simpa using hlo
                  by_cases hhi : r.hi < 4294967295
                  · have f2 : decide (r.hi < 4294967295) = true := by simpa using hhi
                    have HNU : Hid (numU r = true) := Lib.hid (by unfold numU; rw [f1, f2]; rfl)
                    clear hlo hhi
                    go_wp2
                    go_meet
                    exact ⟨by rw [HNU.out]; rfl, rfl⟩
                  · have f2 : decide (r.hi < 4294967295) = false := by simpa using hhi
                    have HNU : Hid (numU r = false) := Lib.hid (by unfold numU; rw [f1, f2]; rfl)
                    clear hlo hhi
                    go_wp2
                    go_meet
                    exact ⟨by rw [HNU.out]; rfl, rfl⟩
              · have f0 : ((k : Int) == 0) = false := by simp; omega
                have f0' : decide ((k : Int) = 0) = false := by simp; omega
                have HF0 := Lib.hid f0'
                clear hk0 f0'
                go_wp2
                go_meet
                exact ⟨by rw [HF0.out]; rfl, rfl⟩
          case rest =>
            obtain ⟨rfl, rfl⟩ := hcut
            generalize (u0 || (decide ((k : Int) = 0) && numU r)) = u1 at *
            clear c0 c1 c2 c3
            obtain ⟨gb, rfl⟩ : ∃ x : Nat, x = gk := ⟨_, rfl⟩
            obtain ⟨wi, hwi⟩ : ∃ x : World, x = wr.alloc (.cells #[.int .i64 r.v, .int .i64 r.lo, .int .i64 r.hi, .slice TA r.ts.length tc] 35) := ⟨_, rfl⟩
            obtain ⟨xb, hxb⟩ : ∃ x : Nat, x = wr.heap.size := ⟨_, rfl⟩
            rw [← hwi, ← hxb] at HX
            rw [← hwi] at HLX
            have hxl : wi.heap.size ≤ xb + 1 := by rw [hwi, hxb]; simp
            rw [← hwi, ← hxb]
            clear hwi hxb
            go_wp2
            go_loopg [5, 8] r.ts.length (fun gi u i wr => ∃ (m : Nat), gi + m = r.ts.length ∧ i = .int .i64 m ∧ u = .bool (u1 || decide ((k : Int) ∈ (r.ts.take m).map Tst.f)) ∧ Hid (Below wi.heap.size wi wr))
            case atStart => exact ⟨0, by omega, rfl, by simp, Lib.hid (Below.refl _ _)⟩
            case round =>
              obtain ⟨m, hgm, rfl, rfl, HF3⟩ := hrel
              have x3 := (HX.out.up HF3.out).cell (i := 3) rfl
              have xl := HX.out.lt
              have hbs3 := HF3.out.size
              by_cases hm : gk = 0
              · subst hm
                obtain rfl : m = r.ts.length := by omega
                rw [List.take_length]
                have HFB : Hid (decide ((k : Int) ∈ flds (List.take (j + 1) rs)) = (u1 || decide ((k : Int) ∈ r.ts.map Tst.f))) := HFA
                go_wp2
                go_roundg gb
                case measure => omega
                case rel =>
                  go_light
                  exact ⟨j + 1, by omega, by go_num, by rw [HFB.out], Lib.hid (HLX.out.trans (HF3.out.mono HLX.out.size))⟩
              · obtain ⟨gk, rfl⟩ : ∃ x, gk = x + 1 := ⟨gk - 1, by omega⟩
                have hlm : m < r.ts.length := by omega
                have hFW3 : Below w.heap.size w wr := (HF.out.trans (HLX.out.mono (by omega))).trans (HF3.out.mono (by have := HLX.out.size; omega))
                obtain ⟨tb, toff, t, rfl, htb, ht, t0, t1, t2, t3⟩ := (HT0.out.below hFW3).tst hlm
                have htb2 : tb < wr.heap.size := by have := hFW3.size; omega
                have HMT := Lib.hid (mem_tsf ht (k : Int))
                clear ht hFW3
                cases hu : (u1 || decide ((k : Int) ∈ (r.ts.take m).map Tst.f)) with
                | true =>
                  have HUU : Hid ((u1 || decide ((k : Int) ∈ (r.ts.take (m + 1)).map Tst.f)) = true) := Lib.hid (by rw [HMT.out, ← Bool.or_assoc, hu]; rfl)
                  clear hu
                  go_wp2
                  go_roundg gk
                  case measure => omega
                  case rel =>
                    go_light
                    exact ⟨m + 1, by omega, by go_num, by rw [HUU.out], HF3⟩
                | false =>
                  have HUU : Hid ((u1 || decide ((k : Int) ∈ (r.ts.take (m + 1)).map Tst.f)) = decide (t.f = (k : Int))) := Lib.hid (by rw [HMT.out, ← Bool.or_assoc, hu]; rfl)
                  clear hu
                  by_cases hf : t.f = (k : Int)
                  · have f1 : ((t.f : Int) == (k : Int)) = true := by simpa using hf
                    have HD : Hid (decide (t.f = (k : Int)) = true) := Lib.hid (by simpa using hf)
                    clear hf
                    go_wp2
                    go_roundg gk
                    case measure => omega
                    case rel =>
                      go_light
                      exact ⟨m + 1, by omega, by go_num, by rw [HUU.out, HD.out], HF3⟩
                  · have f1 : ((t.f : Int) == (k : Int)) = false := by simpa using hf
                    have HD : Hid (decide (t.f = (k : Int)) = false) := Lib.hid (by simpa using hf)
                    clear hf
                    go_wp2
                    go_roundg gk
                    case measure => omega
                    case rel =>
                      go_light
                      exact ⟨m + 1, by omega, by go_num, by rw [HUU.out, HD.out], HF3⟩
theorem specPolicyUses_c (A : Option Addr) (n c : Nat) (rs : List Rl) (e : Int) (w : World) (hn : n ≤ 9223372036854775807) (hr : RdR w w.heap.size A n rs) :
    Calls Tryd.prog 35 #[.agg #[.slice A n c, .int .i64 e]] w (RetOwn 3 1 (usesP ⟨rs, e⟩).length (ints (usesP ⟨rs, e⟩)) w) := by
  unfold usesP
  by_cases h : polOk ⟨rs, e⟩ = true
  · rw [if_pos h]
    exact specPolicyUses_yes A n c rs e w hn hr h
  · rw [if_neg h]
    have HR := Lib.hid hr
    have hO1 := fun W h => specPolicyOk_c A n c rs e W h hn
    rw [show polOk ⟨rs, e⟩ = false by simpa using h] at hO1
    have HO1 := Lib.hid hO1
    have hE := own_new0 (w.alloc (.cells #[.slice A n c, .int .i64 e] 25)) 3 w.heap.size 1 (by simp)
    simp only [World.size_alloc] at hE
    have HE := Lib.hid hE
    clear hr hO1 h hE
    go_enter Tryd.func35, Tryd.ntmps35
    (go_wp2_with fail); (go_at_call 18; refine (HO1.out _ (HR.out.upB (by go_grown) (by go_size))).mono ?_; rintro e w1 ⟨rfl, b1⟩; have E1 := Lib.hid (own_up HE.out b1); obtain ⟨gc1, gf1⟩ := below_get b1; (try simp only [heap_drew, World.size_alloc, World.size_setCell] at gc1 gf1); have s1 := below_via (w := w) (by go_grown) b1; have H1 := s1; have hs1 := b1.size; (try simp at hs1); have z1_0 : w.heap.size < w1.heap.size := (by omega); clear b1)
    go_wp2
    go_returns
    exact ⟨_, _, rfl, E1.out, by go_grown⟩
end Go.Proofs.YtljgaepgblakhaaDoor
