/- The program's PolicyFit: a closure handed to slices.IndexFunc. Conditions: each contract's own. -/
import Derived.Test.YtljgaepgblakhaaDoorPolOf
namespace Go.Proofs.YtljgaepgblakhaaDoor
set_option linter.unusedSimpArgs false
open Go.RowKit
set_option linter.unusedVariables false
set_option linter.unnecessarySimpa false
set_option maxRecDepth 20000
theorem fitV_bound (rs : List Rl) (e num : Int) (xs : List Int) : 0 ≤ fitV ⟨rs, e⟩ num xs ∧ fitV ⟨rs, e⟩ num xs ≤ rs.length := by
  unfold fitV
  cases h : rs.findIdx? (ruleFitsB num xs) with
  | none => simp
  | some k =>
    have := (List.findIdx?_eq_some_iff_findIdx_eq.1 h).1
    simp
    omega
theorem fit1_c (r : Rl) (TA : Option Addr) (tc g : Nat) (num : Int) (B : Option Addr) (d : Nat) (xs : List Int) (w : World) (hok : r.ts.all tstB = true) (hrl : r.ts.length ≤ 9223372036854775807) (hr : Rd w w.heap.size 4 TA r.ts.length (tsts r.ts)) (hq : Rd w w.heap.size 1 B 4 (ints xs)) (hg : Blk w g 28 [.int .i64 num, .slice B 4 d]) :
    Calls Tryd.prog 80 #[.agg #[.int .i64 r.v, .int .i64 r.lo, .int .i64 r.hi, .slice TA r.ts.length tc], .pointer (some ⟨g, 0, none⟩)] w (RetB (.bool (ruleFitsB num xs r)) w) := by
  have HR := Lib.hid hr
  have HQ := Lib.hid hq
  have HC := Lib.hid (fun W h1 h2 => ruleFits_c r TA tc num B d xs W hok hrl h1 h2)
  have k4 := hg.cell (i := 0) rfl
  have k5 := hg.cell (i := 1) rfl
  have hglt := hg.lt
  clear hr hq hg
  go_enter Tryd.func80, Tryd.ntmps80
  go_wp2_with (go_at_call 81; refine (HC.out _ (HR.out.upB (by go_grown) (by go_size)) (HQ.out.upB (by go_grown) (by go_size))).mono ?_; rintro e w1 ⟨rfl, b1⟩; obtain ⟨gc1, gf1⟩ := below_get b1; (try simp only [heap_drew, World.size_alloc, World.size_setCell] at gc1 gf1); have s1 := below_via (w := w) (by go_grown) b1; have H1 := s1; have hs1 := b1.size; (try simp at hs1); have z1_0 : w.heap.size < w1.heap.size := (by omega); clear b1)
  go_returns
  exact ⟨rfl, by go_grown⟩
theorem indexFunc_c (A : Option Addr) (n c : Nat) (rs : List Rl) (g : Nat) (num : Int) (B : Option Addr) (d : Nat) (xs : List Int) (w : World) (hb : rs.all ruleB = true) (hn : n ≤ 9223372036854775807) (hr : RdR w w.heap.size A n rs) (hq : Rd w w.heap.size 1 B 4 (ints xs)) (hg : Blk w g 28 [.int .i64 num, .slice B 4 d]) :
    Calls Tryd.prog 79 #[.slice A n c, .func (Fn.func 80) #[] #[.pointer (some ⟨g, 0, none⟩)]] w (RetB (.int .i64 (fitV ⟨rs, 0⟩ num xs - 1)) w) := by
  have hl := hr.1
  have HR := Lib.hid hr
  have HQ := Lib.hid hq
  have HOK := Lib.hid hb
  have HG := Lib.hid hg
  clear hr hq hb hg
  go_enter Tryd.func79, Tryd.ntmps79
  go_wp2
  go_loopw [8] (fun i wr => ∃ k : Nat, k ≤ n ∧ i = .int .i64 k ∧ Hid ((rs.take k).all (fun x => !ruleFitsB num xs x) = true) ∧ Hid (Below w.heap.size w wr)) (fun i _ => n - (intOf i).toNat)
  case atStart => exact ⟨0, by omega, by rfl, Lib.hid (by simp), by show Below _ _ _; go_grown⟩
  case round =>
    obtain ⟨k, hk, rfl, HAL, HF⟩ := hrel
    have hbs := HF.out.size
    by_cases hlt : k < n
    · obtain ⟨b, off, r, rfl, hb, hp, TA, tc, c0, c1, c2, c3, hrt, hrl⟩ := (HR.out.below HF.out).rl hlt
      have HPP := Lib.hid hp
      have HT := Lib.hid (hrt.more hbs)
      have hC := fun W h1 h2 h3 => fit1_c r TA tc g num B d xs W (rule_tests HOK.out HPP.out) hrl h1 h2 h3
      have HC := Lib.hid hC
      have G1 := Lib.hid (HG.out.up HF.out)
      have k4 := G1.out.cell (i := 0) rfl
      have k5 := G1.out.cell (i := 1) rfl
      have hglt := HG.out.lt
      have hglt2 : g < wr.heap.size := by omega
      clear hp hrt hC
      go_wp2_with (go_at_call 80; refine (HC.out _ (HT.out.upB (by go_grown) (by go_size)) (HQ.out.below (below_via HF.out (by go_grown)) |>.more (by (try simp); omega)) (by first | exact G1.out | exact G1.out.alloc _)).mono ?_; rintro e w1 ⟨rfl, b1⟩; have hb1 := below_on HF.out (by go_grown) b1; have hs1 := b1.size; (try simp at hs1); clear b1)
      · go_returns
        go_light
        rename (_ = true) => h
        have e1 := (polV_at (e := 0) HPP.out h HAL.out).2
        rw [e1]
        exact ⟨by simp, hb1⟩
      · go_roundw
        case measure => simp [intOf]; omega
        case rel =>
          go_light
          rename (_ = false) => h
          exact ⟨k + 1, by omega, by go_num, by show _ = true; rw [take_all _ _ _ _ HPP.out, HAL.out, h]; rfl, hb1⟩
    · have hkn : k = n := by omega
      have e1 : rs.take k = rs := List.take_of_length_le (by omega)
      rw [e1] at HAL
      have HE := Lib.hid (polV_none (e := 0) HAL.out).2
      clear e1
      go_wp2_with fail
      go_returns
      rw [HE.out]
      exact ⟨rfl, HF.out⟩
theorem policyFit_c (A : Option Addr) (n c : Nat) (rs : List Rl) (e num : Int) (B : Option Addr) (m d : Nat) (xs : List Int) (w : World) (hn : n ≤ 9223372036854775807) (hm : m ≤ 9223372036854775807) (hr : RdR w w.heap.size A n rs) (hq : Rd w w.heap.size 1 B m (ints xs)) (hp : PT w w.heap.size) :
    Calls Tryd.prog 28 #[.agg #[.slice A n c, .int .i64 e], .agg #[.int .i64 num, .slice B m d]] w (RetB (.int .i64 (polFitV ⟨rs, e⟩ num xs)) w) := by
  have hxl := hq.len1
  have HR := Lib.hid hr
  have HQ := Lib.hid hq
  have HP := Lib.hid hp
  have hO := fun W h1 h2 => policyOk_c A n c rs e W h1 hn h2
  have hK := fun W h => callOk_c num B m d xs W h hm
  have HB2 := Lib.hid (blk_two w 25 28 [.slice A n c, .int .i64 e] [.int .i64 num, .slice B m d])
  clear hr hp hq
  by_cases hh : polOk ⟨rs, e⟩ = true
  · by_cases hc : callB num xs = true
    · obtain rfl : m = 4 := by have := callB_len hc; simp [ints] at hxl; omega
      obtain ⟨h8, hall⟩ := polOk_rules hh
      have hv : polFitV ⟨rs, e⟩ num xs = fitV ⟨rs, e⟩ num xs := by rw [polFitV, hh, hc]; rfl
      rw [hh] at hO
      rw [hc] at hK
      rw [hv]
      have HO := Lib.hid hO
      have HK := Lib.hid hK
      have HOK := Lib.hid hall
      have hfb := fitV_bound rs 0 num xs
      clear hO hK hv hh hc hall
      go_enter Tryd.func28, Tryd.ntmps28
      go_wp2_with (first
        | (go_at_call 17; refine (HO.out _ (HR.out.upB (by go_grown) (by go_size)) ((HP.out.below (by go_grown)).more (by simp; omega))).mono ?_; rintro e w1 ⟨rfl, b1⟩; have P1 := Lib.hid (HB2.out.2.below b1 (by simp; try omega)); obtain ⟨gc1, gf1⟩ := below_get b1; (try simp only [heap_drew, World.size_alloc, World.size_setCell] at gc1 gf1); have s1 := below_via (w := w) (by go_grown) b1; have H1 := s1; have hs1 := b1.size; (try simp at hs1); have z1_0 : w.heap.size < w1.heap.size := (by omega); have z1_1 : w.heap.size + 1 < w1.heap.size := (by omega); clear b1)
        | (go_at_call 60; refine (HK.out _ ((HQ.out.up s1).upB (by go_grown) (by go_size))).mono ?_; rintro e w2 ⟨rfl, b2⟩; have Q1 := Lib.hid (P1.out.below b2 (by (try simp); omega)); obtain ⟨gc2, gf2⟩ := below_get b2; (try simp only [heap_drew, World.size_alloc, World.size_setCell] at gc2 gf2); have s2 := below_via (w := w1) (by go_grown) b2; have H2 := below_via H1 s2; have hs2 := b2.size; (try simp at hs2); have z2_0 : w.heap.size < w2.heap.size := (by omega); have z2_1 : w.heap.size + 1 < w2.heap.size := (by omega); clear b2)
        | (go_at_call 79; refine (indexFunc_c A n c rs (w.heap.size + 1) num B d xs _ HOK.out hn (((HR.out.up s1).up s2).upB (by go_grown) (by go_size)) (((HQ.out.up s1).up s2).upB (by go_grown) (by go_size)) Q1.out).mono ?_; rintro e w3 ⟨rfl, b3⟩; obtain ⟨gc3, gf3⟩ := below_get b3; (try simp only [heap_drew, World.size_alloc, World.size_setCell] at gc3 gf3); have s3 := below_via (w := w2) (by go_grown) b3; have H3 := below_via H2 s3; have hs3 := b3.size; (try simp at hs3); have z3_0 : w.heap.size < w3.heap.size := (by omega); clear b3))
      go_returns
      go_light
      refine ⟨retv ?_, by go_grown⟩
      rw [show fitV ⟨rs, e⟩ num xs = fitV ⟨rs, 0⟩ num xs from rfl]
      show Value.int .i64 (1 + (fitV ⟨rs, 0⟩ num xs - 1)) = Value.int .i64 (fitV ⟨rs, 0⟩ num xs)
      exact congrArg (Value.int .i64) (by omega)
    · have hc' : callB num xs = false := by simpa using hc
      have hv : polFitV ⟨rs, e⟩ num xs = -1 := by rw [polFitV, hc', Bool.and_false]; rfl
      rw [hh] at hO
      rw [hc'] at hK
      rw [hv]
      have HO := Lib.hid hO
      have HK := Lib.hid hK
      clear hO hK hv hh hc hc'
      go_enter Tryd.func28, Tryd.ntmps28
      go_wp2_with (first
        | (go_at_call 17; refine (HO.out _ (HR.out.upB (by go_grown) (by go_size)) ((HP.out.below (by go_grown)).more (by simp; omega))).mono ?_; rintro e w1 ⟨rfl, b1⟩; obtain ⟨gc1, gf1⟩ := below_get b1; (try simp only [heap_drew, World.size_alloc, World.size_setCell] at gc1 gf1); have s1 := below_via (w := w) (by go_grown) b1; have H1 := s1; have hs1 := b1.size; (try simp at hs1); have z1_0 : w.heap.size < w1.heap.size := (by omega); have z1_1 : w.heap.size + 1 < w1.heap.size := (by omega); clear b1)
        | (go_at_call 60; refine (HK.out _ ((HQ.out.up s1).upB (by go_grown) (by go_size))).mono ?_; rintro e w2 ⟨rfl, b2⟩; obtain ⟨gc2, gf2⟩ := below_get b2; (try simp only [heap_drew, World.size_alloc, World.size_setCell] at gc2 gf2); have s2 := below_via (w := w1) (by go_grown) b2; have H2 := below_via H1 s2; have hs2 := b2.size; (try simp at hs2); have z2_0 : w.heap.size < w2.heap.size := (by omega); have z2_1 : w.heap.size + 1 < w2.heap.size := (by omega); clear b2))
      go_returns
      exact ⟨rfl, by go_grown⟩
  · have hh' : polOk ⟨rs, e⟩ = false := by simpa using hh
    have hv : polFitV ⟨rs, e⟩ num xs = -1 := by rw [polFitV, hh', Bool.false_and]; rfl
    rw [hh'] at hO
    rw [hv]
    have HO := Lib.hid hO
    clear hO hK hv hh hh'
    go_enter Tryd.func28, Tryd.ntmps28
    go_wp2_with (first
      | (go_at_call 17; refine (HO.out _ (HR.out.upB (by go_grown) (by go_size)) ((HP.out.below (by go_grown)).more (by simp; omega))).mono ?_; rintro e w1 ⟨rfl, b1⟩; obtain ⟨gc1, gf1⟩ := below_get b1; (try simp only [heap_drew, World.size_alloc, World.size_setCell] at gc1 gf1); have s1 := below_via (w := w) (by go_grown) b1; have H1 := s1; have hs1 := b1.size; (try simp at hs1); have z1_0 : w.heap.size < w1.heap.size := (by omega); have z1_1 : w.heap.size + 1 < w1.heap.size := (by omega); clear b1))
    go_returns
    exact ⟨rfl, by go_grown⟩
end Go.Proofs.YtljgaepgblakhaaDoor
