/- PolicyOf and PolicyFit, both sides. Conditions: each contract's own. -/
import Derived.Test.YtljgaepgblakhaaDoorFits
namespace Go.Proofs.YtljgaepgblakhaaDoor
set_option linter.unusedSimpArgs false
open Go.RowKit
set_option linter.unusedVariables false
set_option linter.unnecessarySimpa false
set_option maxRecDepth 20000
theorem polV_at {rs : List Rl} {e num : Int} {xs : List Int} {k : Nat} {r : Rl} (h : rs[k]? = some r) (hp : ruleFitsB num xs r = true) (hb : (rs.take k).all (fun x => !ruleFitsB num xs x) = true) : polV ⟨rs, e⟩ num xs = r.v ∧ fitV ⟨rs, e⟩ num xs = (k : Int) + 1 := by
  obtain ⟨h1, h2⟩ := find_at h hp hb
  simp only [polV, fitV, h1, h2, and_self]
theorem polV_none {rs : List Rl} {e num : Int} {xs : List Int} (hb : rs.all (fun x => !ruleFitsB num xs x) = true) : polV ⟨rs, e⟩ num xs = e ∧ fitV ⟨rs, e⟩ num xs = 0 := by
  obtain ⟨h1, h2⟩ := find_none hb
  simp only [polV, fitV, h1, h2, and_self]
set_option maxHeartbeats 4000000 in
theorem policyOfIn_c (A : Option Addr) (n c : Nat) (rs : List Rl) (e num : Int) (B : Option Addr) (d : Nat) (xs : List Int) (w : World) (hb : rs.all ruleB = true) (hn : n ≤ 9223372036854775807) (hr : RdR w w.heap.size A n rs) (hq : Rd w w.heap.size 1 B 4 (ints xs)) :
    Calls Tryd.prog 66 #[.agg #[.slice A n c, .int .i64 e], .agg #[.int .i64 num, .slice B 4 d]] w (RetB (.int .i64 (polV ⟨rs, e⟩ num xs)) w) := by
  have hl := hr.1
  have HR := Lib.hid hr
  have HQ := Lib.hid hq
  have HOK := Lib.hid hb
  have HB2 := Lib.hid (blk_two w 25 28 [.slice A n c, .int .i64 e] [.int .i64 num, .slice B 4 d])
  clear hr hq hb
  go_enter Tryd.func66, Tryd.ntmps66
  go_wp2
  go_loopw [10] (fun i wr => ∃ k : Nat, k ≤ n ∧ i = .int .i64 k ∧ Hid ((rs.take k).all (fun x => !ruleFitsB num xs x) = true) ∧ Hid (Blk wr w.heap.size 25 [.slice A n c, .int .i64 e]) ∧ Hid (Blk wr (w.heap.size + 1) 28 [.int .i64 num, .slice B 4 d]) ∧ Hid (Below w.heap.size w wr) ∧ w.heap.size + 1 < wr.heap.size) (fun i _ => n - (intOf i).toNat)
  case atStart => exact ⟨0, by omega, by rfl, Lib.hid (by simp), HB2.out.1, HB2.out.2, by show Below _ _ _; go_grown, by simp⟩
  case round =>
    obtain ⟨k, hk, rfl, HAL, B0, B1, HF, hz⟩ := hrel
    have hbs := HF.out.size
    have k1 := B0.out.cell (i := 1) rfl
    have k4 := B1.out.cell (i := 0) rfl
    have k5 := B1.out.cell (i := 1) rfl
    by_cases hlt : k < n
    · obtain ⟨b, off, r, rfl, hb, hp, TA, tc, c0, c1, c2, c3, hrt, hrl⟩ := (HR.out.below HF.out).rl hlt
      have hC := fun W h1 h2 => ruleFits_c r TA tc num B d xs W (rule_tests HOK.out hp) hrl h1 h2
      have HC := Lib.hid hC
      have HPP := Lib.hid hp
      have HT := Lib.hid (hrt.more hbs)
      have HTB := Lib.hid (Blk.new wr 35 [.int .i64 r.v, .int .i64 r.lo, .int .i64 r.hi, .slice TA r.ts.length tc])
      clear hp hrt hC
      go_wp2_with (go_at_call 81; refine (HC.out _ (HT.out.upB (by go_grown) (by go_size)) (HQ.out.below (below_via HF.out (by go_grown)) |>.more (by (try simp); omega))).mono ?_; rintro e w1 ⟨rfl, b1⟩; have hb1 := below_on HF.out (by go_grown) b1; have G1 := below_via (w := wr) (by go_grown) b1; have D0 := Lib.hid (B0.out.up G1); have D1 := Lib.hid (B1.out.up G1); have T1 := Lib.hid (HTB.out.below b1 (by simp)); have t0 := T1.out.cell (i := 0) rfl; have hs1 := b1.size; (try simp at hs1); clear b1)
      · go_returns
        go_light
        rename (_ = true) => h
        have e1 := (polV_at (e := e) HPP.out h HAL.out).1
        rw [e1]
        exact ⟨rfl, hb1⟩
      · go_roundw
        case measure => simp [intOf]; omega
        case rel =>
          go_light
          rename (_ = false) => h
          exact ⟨k + 1, by omega, by go_num, by show _ = true; rw [take_all _ _ _ _ HPP.out, HAL.out, h]; rfl, D0, D1, hb1, by omega⟩
    · have hkn : k = n := by omega
      have e1 : rs.take k = rs := List.take_of_length_le (by omega)
      rw [e1] at HAL
      have HE := Lib.hid (polV_none (e := e) HAL.out).1
      clear e1
      go_wp2_with fail
      go_returns
      rw [HE.out]
      exact ⟨rfl, HF.out⟩
theorem policyOf_c (A : Option Addr) (n c : Nat) (rs : List Rl) (e num : Int) (B : Option Addr) (m d : Nat) (xs : List Int) (w : World) (hn : n ≤ 9223372036854775807) (hm : m ≤ 9223372036854775807) (hr : RdR w w.heap.size A n rs) (hq : Rd w w.heap.size 1 B m (ints xs)) (hp : PT w w.heap.size) :
    Calls Tryd.prog 15 #[.agg #[.slice A n c, .int .i64 e], .agg #[.int .i64 num, .slice B m d]] w (RetB (.int .i64 (polOfV ⟨rs, e⟩ num xs)) w) := by
  have hxl := hq.len1
  have HR := Lib.hid hr
  have HQ := Lib.hid hq
  have HP := Lib.hid hp
  have hO := fun W h1 h2 => policyOk_c A n c rs e W h1 hn h2
  have hK := fun W h => callOk_c num B m d xs W h hm
  have HB2 := Lib.hid (blk_two w 25 28 [.slice A n c, .int .i64 e] [.int .i64 num, .slice B m d])
  clear hr hp hq
  by_cases hh : polOk ⟨rs, e⟩ = true
  · by_cases hc : callB num xs = true
    · obtain rfl : m = 4 := by have := callB_len hc; simp [ints] at hxl; omega
      obtain ⟨h8, hall⟩ := polOk_rules hh
      have hv : polOfV ⟨rs, e⟩ num xs = polV ⟨rs, e⟩ num xs := by rw [polOfV, hh, hc]; rfl
      have hC := fun W h1 h2 => policyOfIn_c A n c rs e num B d xs W hall hn h1 h2
      rw [hh] at hO
      rw [hc] at hK
      rw [hv]
      generalize polV ⟨rs, e⟩ num xs = V at *
      have HO := Lib.hid hO
      have HK := Lib.hid hK
      have HC := Lib.hid hC
      clear hO hK hC hv hh hc hall
      go_enter Tryd.func15, Tryd.ntmps15
      go_wp2_with (first
        | (go_at_call 17; refine (HO.out _ (HR.out.upB (by go_grown) (by go_size)) ((HP.out.below (by go_grown)).more (by simp; omega))).mono ?_; rintro e w1 ⟨rfl, b1⟩; obtain ⟨gc1, gf1⟩ := below_get b1; (try simp only [heap_drew, World.size_alloc, World.size_setCell] at gc1 gf1); have s1 := below_via (w := w) (by go_grown) b1; have H1 := s1; have hs1 := b1.size; (try simp at hs1); have z1_0 : w.heap.size < w1.heap.size := (by omega); have z1_1 : w.heap.size + 1 < w1.heap.size := (by omega); clear b1)
        | (go_at_call 60; refine (HK.out _ ((HQ.out.up s1).upB (by go_grown) (by go_size))).mono ?_; rintro e w2 ⟨rfl, b2⟩; obtain ⟨gc2, gf2⟩ := below_get b2; (try simp only [heap_drew, World.size_alloc, World.size_setCell] at gc2 gf2); have s2 := below_via (w := w1) (by go_grown) b2; have H2 := below_via H1 s2; have hs2 := b2.size; (try simp at hs2); have z2_0 : w.heap.size < w2.heap.size := (by omega); have z2_1 : w.heap.size + 1 < w2.heap.size := (by omega); clear b2)
        | (go_at_call 66; refine (HC.out _ (((HR.out.up s1).up s2).upB (by go_grown) (by go_size)) (((HQ.out.up s1).up s2).upB (by go_grown) (by go_size))).mono ?_; rintro e w3 ⟨rfl, b3⟩; obtain ⟨gc3, gf3⟩ := below_get b3; (try simp only [heap_drew, World.size_alloc, World.size_setCell] at gc3 gf3); have s3 := below_via (w := w2) (by go_grown) b3; have H3 := below_via H2 s3; have hs3 := b3.size; (try simp at hs3); have z3_0 : w.heap.size < w3.heap.size := (by omega); clear b3))
      go_returns
      exact ⟨rfl, by go_grown⟩
    · have hc' : callB num xs = false := by simpa using hc
      have hv : polOfV ⟨rs, e⟩ num xs = 4 := by rw [polOfV, hc', Bool.and_false]; rfl
      rw [hh] at hO
      rw [hc'] at hK
      rw [hv]
      have HO := Lib.hid hO
      have HK := Lib.hid hK
      clear hO hK hv hh hc hc'
      go_enter Tryd.func15, Tryd.ntmps15
      go_wp2_with (first
        | (go_at_call 17; refine (HO.out _ (HR.out.upB (by go_grown) (by go_size)) ((HP.out.below (by go_grown)).more (by simp; omega))).mono ?_; rintro e w1 ⟨rfl, b1⟩; obtain ⟨gc1, gf1⟩ := below_get b1; (try simp only [heap_drew, World.size_alloc, World.size_setCell] at gc1 gf1); have s1 := below_via (w := w) (by go_grown) b1; have H1 := s1; have hs1 := b1.size; (try simp at hs1); have z1_0 : w.heap.size < w1.heap.size := (by omega); have z1_1 : w.heap.size + 1 < w1.heap.size := (by omega); clear b1)
        | (go_at_call 60; refine (HK.out _ ((HQ.out.up s1).upB (by go_grown) (by go_size))).mono ?_; rintro e w2 ⟨rfl, b2⟩; obtain ⟨gc2, gf2⟩ := below_get b2; (try simp only [heap_drew, World.size_alloc, World.size_setCell] at gc2 gf2); have s2 := below_via (w := w1) (by go_grown) b2; have H2 := below_via H1 s2; have hs2 := b2.size; (try simp at hs2); have z2_0 : w.heap.size < w2.heap.size := (by omega); have z2_1 : w.heap.size + 1 < w2.heap.size := (by omega); clear b2))
      go_returns
      exact ⟨rfl, by go_grown⟩
  · have hh' : polOk ⟨rs, e⟩ = false := by simpa using hh
    have hv : polOfV ⟨rs, e⟩ num xs = 4 := by rw [polOfV, hh', Bool.false_and]; rfl
    rw [hh'] at hO
    rw [hv]
    have HO := Lib.hid hO
    clear hO hK hv hh hh'
    go_enter Tryd.func15, Tryd.ntmps15
    go_wp2_with (first
      | (go_at_call 17; refine (HO.out _ (HR.out.upB (by go_grown) (by go_size)) ((HP.out.below (by go_grown)).more (by simp; omega))).mono ?_; rintro e w1 ⟨rfl, b1⟩; obtain ⟨gc1, gf1⟩ := below_get b1; (try simp only [heap_drew, World.size_alloc, World.size_setCell] at gc1 gf1); have s1 := below_via (w := w) (by go_grown) b1; have H1 := s1; have hs1 := b1.size; (try simp at hs1); have z1_0 : w.heap.size < w1.heap.size := (by omega); have z1_1 : w.heap.size + 1 < w1.heap.size := (by omega); clear b1))
    go_returns
    exact ⟨rfl, by go_grown⟩
set_option maxHeartbeats 4000000 in
theorem specPolicyOf_c (A : Option Addr) (n c : Nat) (rs : List Rl) (e num : Int) (B : Option Addr) (m d : Nat) (xs : List Int) (w : World) (hn : n ≤ 9223372036854775807) (hm : m ≤ 9223372036854775807) (hr : RdR w w.heap.size A n rs) (hq : Rd w w.heap.size 1 B m (ints xs)) :
    Calls Tryd.prog 16 #[.agg #[.slice A n c, .int .i64 e], .agg #[.int .i64 num, .slice B m d]] w (RetB (.int .i64 (polOfV ⟨rs, e⟩ num xs)) w) := by
  have hl := hr.1
  have hxl := hq.len1
  have HR := Lib.hid hr
  have HQ := Lib.hid hq
  have hO := fun W h1 => specPolicyOk_c A n c rs e W h1 hn
  have hK := fun W h => specCallOk_c num B m d xs W h hm
  have HB2 := Lib.hid (blk_two w 25 28 [.slice A n c, .int .i64 e] [.int .i64 num, .slice B m d])
  clear hr hq
  by_cases hh : polOk ⟨rs, e⟩ = true
  · by_cases hc : callB num xs = true
    · obtain rfl : m = 4 := by have := callB_len hc; simp [ints] at hxl; omega
      obtain ⟨h8, hall⟩ := polOk_rules hh
      have hv : polOfV ⟨rs, e⟩ num xs = polV ⟨rs, e⟩ num xs := by rw [polOfV, hh, hc]; rfl
      rw [hh] at hO
      rw [hc] at hK
      have HV := Lib.hid hv
      have HO := Lib.hid hO
      have HK := Lib.hid hK
      have HOK := Lib.hid hall
      clear hO hK hv hh hc hall
      go_enter Tryd.func16, Tryd.ntmps16
      go_wp2_with (first
        | (go_at_call 18; refine (HO.out _ (HR.out.upB (by go_grown) (by go_size))).mono ?_; rintro e w1 ⟨rfl, b1⟩; have P0 := Lib.hid (HB2.out.1.below b1 (by simp; omega)); have P1 := Lib.hid (HB2.out.2.below b1 (by simp; try omega)); obtain ⟨gc1, gf1⟩ := below_get b1; (try simp only [heap_drew, World.size_alloc, World.size_setCell] at gc1 gf1); have s1 := below_via (w := w) (by go_grown) b1; have H1 := s1; have hs1 := b1.size; (try simp at hs1); have z1_0 : w.heap.size < w1.heap.size := (by omega); have z1_1 : w.heap.size + 1 < w1.heap.size := (by omega); clear b1)
        | (go_at_call 67; refine (HK.out _ ((HQ.out.up s1).upB (by go_grown) (by go_size))).mono ?_; rintro e w2 ⟨rfl, b2⟩; have Q0 := Lib.hid (P0.out.below b2 (by (try simp); omega)); have Q1 := Lib.hid (P1.out.below b2 (by (try simp); omega)); obtain ⟨gc2, gf2⟩ := below_get b2; (try simp only [heap_drew, World.size_alloc, World.size_setCell] at gc2 gf2); have s2 := below_via (w := w1) (by go_grown) b2; have H2 := below_via H1 s2; have hs2 := b2.size; (try simp at hs2); have z2_0 : w.heap.size < w2.heap.size := (by omega); have z2_1 : w.heap.size + 1 < w2.heap.size := (by omega); clear b2))
      go_loopw [5] (fun i wr => ∃ k : Nat, k ≤ n ∧ i = .int .i64 k ∧ Hid ((rs.take k).all (fun x => !ruleFitsB num xs x) = true) ∧ Hid (Blk wr w.heap.size 25 [.slice A n c, .int .i64 e]) ∧ Hid (Blk wr (w.heap.size + 1) 28 [.int .i64 num, .slice B 4 d]) ∧ Hid (Below w.heap.size w wr) ∧ w.heap.size + 1 < wr.heap.size) (fun i _ => n - (intOf i).toNat)
      case atStart => exact ⟨0, by omega, by rfl, Lib.hid (by simp), Q0, Q1, by show Below _ _ _; go_grown, by omega⟩
      case round =>
        clear gc1 gf1 gc2 gf2 P0 P1 Q0 Q1
        obtain ⟨k, hk, rfl, HAL, B0, B1, HF, hz⟩ := hrel
        have hbs := HF.out.size
        have k0 := B0.out.cell (i := 0) rfl
        have k1 := B0.out.cell (i := 1) rfl
        have k4 := B1.out.cell (i := 0) rfl
        have k5 := B1.out.cell (i := 1) rfl
        by_cases hlt : k < n
        · obtain ⟨b, off, r, rfl, hb, hp, TA, tc, c0, c1, c2, c3, hrt, hrl⟩ := (HR.out.below HF.out).rl hlt
          have hC := fun W h1 h2 => specFits_c r TA tc num B d xs W (rule_tests HOK.out hp) hrl h1 h2
          have HC := Lib.hid hC
          have HPP := Lib.hid hp
          have HT := Lib.hid (hrt.more hbs)
          clear hp hrt hC
          go_wp2
          go_region_held3 (fun w' => w'.cell? ⟨w.heap.size, 0, none⟩ = some (.slice (some ⟨b, off, none⟩) n c) ∧ w'.cell? ⟨w.heap.size + 1, 0, none⟩ = some (.int .i64 num) ∧ w'.cell? ⟨w.heap.size + 1, 1, none⟩ = some (.slice B 4 d) ∧ w'.cell? ⟨b, off + k * 4, none⟩ = some (.int .i64 r.v) ∧ w'.cell? ⟨b, off + k * 4 + 1, none⟩ = some (.int .i64 r.lo) ∧ w'.cell? ⟨b, off + k * 4 + 2, none⟩ = some (.int .i64 r.hi) ∧ w'.cell? ⟨b, off + k * 4 + 3, none⟩ = some (.slice TA r.ts.length tc)) (simp [go_sem, *])
            (first | (go_at_call 68; refine (HC.out _ (HT.out.upB (by go_grown) (by go_size)) (HQ.out.below (below_via HF.out (by go_grown)) |>.more (by (try simp); omega))).mono ?_; rintro e w5 ⟨rfl, b5⟩; obtain ⟨gc5, gf5⟩ := below_get b5; (try simp only [heap_drew, World.size_alloc, World.size_setCell] at gc5 gf5); have hb5 := below_on HF.out (by go_grown) b5; have G5 := below_via (w := wr) (by go_grown) b5; have D0 := Lib.hid (B0.out.up G5); have D1 := Lib.hid (B1.out.up G5); have z1 : w.heap.size < wr.heap.size := (by omega); have z2 : b < wr.heap.size := (by omega); have hs5 := b5.size; (try simp at hs5); clear b5))
          go_wp2
          · go_returns
            go_light
            rename (_ = true) => h
            have e1 := HV.out.trans (polV_at (e := e) HPP.out h HAL.out).1
            rw [e1]
            exact ⟨rfl, hb5⟩
          · go_roundw
            case measure => simp [intOf]; omega
            case rel =>
              go_light
              rename (_ = false) => h
              exact ⟨k + 1, by omega, by go_num, by show _ = true; rw [take_all _ _ _ _ HPP.out, HAL.out, h]; rfl, D0, D1, hb5, by omega⟩
        · have hkn : k = n := by omega
          have e1 : rs.take k = rs := List.take_of_length_le (by omega)
          rw [e1] at HAL
          have HE := Lib.hid (HV.out.trans (polV_none (e := e) HAL.out).1)
          clear e1
          go_wp2_with fail
          go_returns
          rw [HE.out]
          exact ⟨rfl, HF.out⟩
    · have hc' : callB num xs = false := by simpa using hc
      have hv : polOfV ⟨rs, e⟩ num xs = 4 := by rw [polOfV, hc', Bool.and_false]; rfl
      rw [hh] at hO
      rw [hc'] at hK
      rw [hv]
      have HO := Lib.hid hO
      have HK := Lib.hid hK
      clear hO hK hv hh hc hc'
      go_enter Tryd.func16, Tryd.ntmps16
      go_wp2_with (first
        | (go_at_call 18; refine (HO.out _ (HR.out.upB (by go_grown) (by go_size))).mono ?_; rintro e w1 ⟨rfl, b1⟩; obtain ⟨gc1, gf1⟩ := below_get b1; (try simp only [heap_drew, World.size_alloc, World.size_setCell] at gc1 gf1); have s1 := below_via (w := w) (by go_grown) b1; have H1 := s1; have hs1 := b1.size; (try simp at hs1); have z1_0 : w.heap.size < w1.heap.size := (by omega); have z1_1 : w.heap.size + 1 < w1.heap.size := (by omega); clear b1)
        | (go_at_call 67; refine (HK.out _ ((HQ.out.up s1).upB (by go_grown) (by go_size))).mono ?_; rintro e w2 ⟨rfl, b2⟩; obtain ⟨gc2, gf2⟩ := below_get b2; (try simp only [heap_drew, World.size_alloc, World.size_setCell] at gc2 gf2); have s2 := below_via (w := w1) (by go_grown) b2; have H2 := below_via H1 s2; have hs2 := b2.size; (try simp at hs2); have z2_0 : w.heap.size < w2.heap.size := (by omega); have z2_1 : w.heap.size + 1 < w2.heap.size := (by omega); clear b2))
      go_returns
      exact ⟨rfl, by go_grown⟩
  · have hh' : polOk ⟨rs, e⟩ = false := by simpa using hh
    have hv : polOfV ⟨rs, e⟩ num xs = 4 := by rw [polOfV, hh', Bool.false_and]; rfl
    rw [hh'] at hO
    rw [hv]
    have HO := Lib.hid hO
    clear hO hK hv hh hh'
    go_enter Tryd.func16, Tryd.ntmps16
    go_wp2_with (first
      | (go_at_call 18; refine (HO.out _ (HR.out.upB (by go_grown) (by go_size))).mono ?_; rintro e w1 ⟨rfl, b1⟩; obtain ⟨gc1, gf1⟩ := below_get b1; (try simp only [heap_drew, World.size_alloc, World.size_setCell] at gc1 gf1); have s1 := below_via (w := w) (by go_grown) b1; have H1 := s1; have hs1 := b1.size; (try simp at hs1); have z1_0 : w.heap.size < w1.heap.size := (by omega); have z1_1 : w.heap.size + 1 < w1.heap.size := (by omega); clear b1))
    go_returns
    exact ⟨rfl, by go_grown⟩
