/- The program's PolicyWrite and PolicyOk. Conditions: each contract's own. -/
import Derived.Test.YtmfienlceobfeaaDoorJ29d51c0865
import Derived.Test.YtmfienlceobfeaaDoorJ6c099d9187
import Derived.Test.YtmfienlceobfeaaDoorJ6de6721e6c
namespace Go.Proofs.YtmfienlceobfeaaDoor
set_option linter.unusedSimpArgs false
open Go.RowKit
set_option linter.unusedVariables false
set_option linter.unnecessarySimpa false
set_option maxRecDepth 20000
set_option maxHeartbeats 4000000 in
theorem ruleOk_c (r : Rl) (TA : Option Addr) (tc : Nat) (w : World) (hr : Rd w w.heap.size 4 TA r.ts.length (tsts r.ts)) (hrl : r.ts.length ≤ 9223372036854775807) :
    Calls Tryd.prog 39 #[.agg #[.int .i64 r.v, .int .i64 r.lo, .int .i64 r.hi, .slice TA r.ts.length tc]] w (RetB (.bool (ruleB r)) w) := by
  have HR := Lib.hid hr
  clear hr
  by_cases hd : ruleHd r = true
  · obtain ⟨⟨hv1, hv4⟩, ⟨hl0, hl1⟩, ⟨hh0, hh1⟩, ht4⟩ := (ruleHd_iff r).1 hd
    have HHD := Lib.hid hd
    have w1 : verB r.v = true := by simp [verB]; omega
    have w2 : wordB r.lo = true := by simp [wordB]; omega
    have w3 : wordB r.hi = true := by simp [wordB]; omega
    clear hd
    go_enter Tryd.func39, Tryd.ntmps39
    go_wp2_with (first
      | (go_at_call 38; refine (verdictOk_c _ _).mono ?_; rintro e w' ⟨rfl, rfl⟩)
      | (go_at_call 22; refine (wordOk_c _ _).mono ?_; rintro e w' ⟨rfl, rfl⟩))
    go_loopw [35] (fun i wr => ∃ j : Nat, j ≤ r.ts.length ∧ i = .int .i64 j ∧ Hid ((r.ts.take j).all tstB = true) ∧ Hid (Below w.heap.size w wr)) (fun i _ => r.ts.length - (intOf i).toNat)
    case atStart => exact ⟨0, by omega, by rfl, Lib.hid (by simp), by show Below _ _ _; go_grown⟩
    case round =>
      obtain ⟨j, hj, rfl, HAT, HF⟩ := hrel
      have hbs := HF.out.size
      by_cases hlt : j < r.ts.length
      · obtain ⟨b2, off2, t, rfl, hb2, ht, d0, d1, d2, d3⟩ := (HR.out.below HF.out).tst hlt
        have HTT := Lib.hid ht
        have hC := testOk_c t.f t.m t.op t.x
        unfold testV at hC
        have HC := Lib.hid hC
        clear ht hC
        go_wp2_with (go_at_call 48; refine (HC.out _).mono ?_; rintro e w5 ⟨rfl, b5⟩; have hb5 := below_on HF.out (by go_grown) b5; clear b5)
        · go_returns
          go_light
          rename (_ = true) => h
          have e1 := all_false tstB r.ts j t HTT.out (by simpa [tstB] using h)
          have e2 : ruleB r = false := by rw [ruleB_eq, e1, Bool.and_false]
          exact ⟨by rw [e2]; rfl, hb5⟩
        · go_roundw
          case measure => simp [intOf]; omega
          case rel =>
            go_light
            rename (_ = false) => h
            exact ⟨j + 1, by omega, by go_num, by show _ = true; rw [take_all _ _ _ _ HTT.out, HAT.out]; simpa [tstB] using h, hb5⟩
      · have hjn : j = r.ts.length := by omega
        have e1 : r.ts.take j = r.ts := by rw [hjn]; exact List.take_length
        rw [e1] at HAT
        have e2 : ruleB r = true := by rw [ruleB_eq, HHD.out, HAT.out]; rfl
        have HE := Lib.hid e2
        clear e1 e2
        go_wp2_with fail
        go_returns
        rw [HE.out]
        exact ⟨rfl, HF.out⟩
  · have e2 : ruleB r = false := by rw [ruleB_eq, show ruleHd r = false from by simpa using hd]; rfl
    have HE := Lib.hid e2
    have HD := Lib.hid (fun h => hd ((ruleHd_iff r).2 h))
    clear hd e2
    go_enter Tryd.func39, Tryd.ntmps39
    go_wp2_with (first
      | (go_at_call 38; refine (verdictOk_c _ _).mono ?_; rintro e w' ⟨rfl, rfl⟩)
      | (go_at_call 22; refine (wordOk_c _ _).mono ?_; rintro e w' ⟨rfl, rfl⟩))
    all_goals first
      | (go_returns; exact ⟨by rw [HE.out]; rfl, by go_grown⟩)
      | (exfalso; have h := HD.out; simp [verB, wordB] at *; omega)
theorem textT_len {rs : List Rl} {e : Int} (h : rs.all ruleB = true) (hn : rs.length ≤ 8) : (linesT rs).length ≤ 1312 ∧ (textT ⟨rs, e⟩).length ≤ 2000 := by
  have h1 := lines_len h
  have h2 := word_len e
  refine ⟨by omega, ?_⟩
  simp [textT]; omega
def linesV (p : Pol) : Value := if polB p then .tuple #[.string (str (textT p)), .bool true] else .tuple #[.string ⟨#[]⟩, .bool false]
theorem linesV_t {p : Pol} (h : polB p = true) : linesV p = .tuple #[.string (str (textT p)), .bool true] := by rw [linesV, if_pos h]
theorem linesV_f {p : Pol} (h : polB p = false) : linesV p = .tuple #[.string ⟨#[]⟩, .bool false] := by rw [linesV, if_neg (by rw [h]; exact Bool.false_ne_true)]
set_option maxHeartbeats 4000000 in
theorem policyLines_c (A : Option Addr) (n c : Nat) (rs : List Rl) (e : Int) (w : World) (hr : RdR w w.heap.size A n rs) (hn : n ≤ 9223372036854775807) (hp : PT w w.heap.size) :
    Calls Tryd.prog 29 #[.agg #[.slice A n c, .int .i64 e]] w (RetB (linesV ⟨rs, e⟩) w) := by
  have hl := hr.1
  by_cases hh : n ≤ 8 ∧ 1 ≤ e ∧ e ≤ 4
  · obtain ⟨h8, he1, he4⟩ := hh
    have hbr : polB ⟨rs, e⟩ = rs.all ruleB := by
      simp [polB, ruleB.verB', hl, h8, he1, he4]
    have hve : verB e = true := by simp [verB]; omega
    have HBR := Lib.hid hbr
    have HR := Lib.hid hr
    have HP := Lib.hid hp
    have HB0 := Lib.hid (bld_new 74 5 (w.alloc (.cells #[.slice A n c, .int .i64 e] 25)))
    clear hr hbr hp
    go_enter Tryd.func29, Tryd.ntmps29
    go_wp2_with (go_at_call 38; refine (verdictOk_c _ _).mono ?_; rintro e w' ⟨rfl, rfl⟩)
    go_loopg [20] n (fun gk i wr => ∃ k : Nat, gk + k = n ∧ i = .int .i64 k ∧ Hid ((rs.take k).all ruleB = true) ∧ Hid (Lib.IsBuilderF 74 5 (w.heap.size + 1) (w.heap.size + 1) (Lib.byteCells (linesT (rs.take k))) wr) ∧ Hid (wr.cell? ⟨w.heap.size, 1, none⟩ = some (.int .i64 e)) ∧ Hid (Below w.heap.size w wr) ∧ w.heap.size + 1 < wr.heap.size)
    case atStart => exact ⟨0, by omega, by rfl, Lib.hid (by simp), by simpa [linesT, Lib.byteCells] using HB0, Lib.hid (by simp), by show Below _ _ _; go_grown, by simp⟩
    case round =>
      obtain ⟨k, hk, rfl, HAL, HB, K1, HF, hz⟩ := hrel
      have hbs := HF.out.size
      by_cases hlt : k < n
      · obtain ⟨gk, rfl⟩ : ∃ m, gk = m + 1 := ⟨gk - 1, by omega⟩
        obtain ⟨b, off, r, rfl, hb, hpp, TA, tc, c0, c1, c2, c3, hrt, hrl⟩ := (HR.out.below HF.out).rl hlt
        have HT := Lib.hid (hrt.more hbs)
        have HPP := Lib.hid hpp
        have HTB := Lib.hid (Blk.new wr 37 [.int .i64 r.v, .int .i64 r.lo, .int .i64 r.hi, .slice TA r.ts.length tc])
        clear hrt hpp
        have hO := fun W h => ruleOk_c r TA tc W h hrl
        by_cases hok : ruleB r = true
        · rw [hok] at hO
          have HO := Lib.hid hO
          clear hO
          have hll := line_len hok
          have hL := lines_len HAL.out
          have hkk : (rs.take k).length ≤ 8 := by rw [List.length_take]; omega
          have hsu := linesT_succ HPP.out
          have hC := fun W => writeRule_c r TA tc W hok
          obtain ⟨L2, hL2⟩ : ∃ l, linesT (rs.take (k + 1)) = l := ⟨_, rfl⟩
          rw [hL2] at hsu
          have HL2 := Lib.hid hL2
          have HSU := Lib.hid hsu
          obtain ⟨L0, hL0⟩ : ∃ l, linesT (rs.take k) = l := ⟨_, rfl⟩
          rw [hL0] at HB hL HSU
          generalize lineT r = L1 at *
          have n1 : L0.length + L1.length ≤ 140737488355328 := by omega
          have HC := Lib.hid hC
          have HOK := Lib.hid hok
          clear hC hL2 hL0 hsu hL hll hkk hok
          go_wp2_with (first
            | (go_at_call 39; refine (HO.out _ (HT.out.upB (by go_grown) (by go_size))).mono ?_; rintro e w1 ⟨rfl, b1⟩; have HB1 := Lib.hid (bld_below HB.out (below_via (w := wr) (by go_grown) b1)); have T1 := Lib.hid (HTB.out.below b1 (by simp)); have F1 := below_on HF.out (by go_grown) b1; have G1 := below_via (w := wr) (by go_grown) b1; have K11 := Lib.hid (cell_keep G1 K1.out (show w.heap.size < wr.heap.size by omega)); have hs1 := b1.size; (try simp at hs1); have t0 := T1.out.cell (i := 0) rfl; have t1 := T1.out.cell (i := 1) rfl; have t2 := T1.out.cell (i := 2) rfl; have t3 := T1.out.cell (i := 3) rfl; clear b1)
            | (go_at_call 41; refine (HC.out _ (HT.out.below (below_via G1 (by go_grown)) |>.more (by (try simp); omega)) ((HP.out.below (show Below w.heap.size w _ from below_via F1 (by go_grown))).more (by (try simp); omega))).mono ?_; rintro e w2 ⟨rfl, b2⟩; have HB2 := Lib.hid (bld_below HB1.out (below_via (w := w1) (by go_grown) b2)); have F2 := below_on F1 (by go_grown) b2; have K12 := Lib.hid (cell_keep (below_via (w := w1) (by go_grown) b2) K11.out (show w.heap.size < w1.heap.size by omega)); have hs2 := b2.size; (try simp at hs2); clear b2)
            | (go_at_call 40; refine (writeStr_c (w.heap.size + 1) (w.heap.size + 1) L0 L1 _ HB2.out n1 (by (try simp); omega)).mono ?_; rintro e w3 ⟨⟨n3, rfl⟩, q3, b3, o3⟩; have HB3 := Lib.hid q3; clear q3; have F3 := below_low (w := w) F2 b3 (by omega); have K13 := Lib.hid ((b3.cell (p := ⟨w.heap.size, 1, none⟩) (show w.heap.size < w.heap.size + 1 by omega)).trans K12.out); have hs3 := b3.size; (try simp at hs3); clear b3 o3))
          all_goals
            go_roundg gk
            case measure => omega
            case rel =>
              go_light
              exact ⟨k + 1, by omega, by go_num, by show _ = true; rw [take_all _ _ _ _ HPP.out, HAL.out, HOK.out]; rfl, by rw [HL2.out, HSU.out]; exact HB3, K13, F3, by omega⟩
        · have hok' : ruleB r = false := by simpa using hok
          have e3 := all_false ruleB rs k r HPP.out hok'
          have HE := Lib.hid (linesV_f (HBR.out.trans e3))
          rw [hok'] at hO
          have HO := Lib.hid hO
          clear hok e3 hO hok'
          go_wp2_with (go_at_call 39; refine (HO.out _ (HT.out.upB (by go_grown) (by go_size))).mono ?_; rintro e w1 ⟨rfl, b1⟩; have HB1 := Lib.hid (bld_below HB.out (below_via (w := wr) (by go_grown) b1)); have T1 := Lib.hid (HTB.out.below b1 (by simp)); have F1 := below_on HF.out (by go_grown) b1; have G1 := below_via (w := wr) (by go_grown) b1; have K11 := Lib.hid (cell_keep G1 K1.out (show w.heap.size < wr.heap.size by omega)); have hs1 := b1.size; (try simp at hs1); have t0 := T1.out.cell (i := 0) rfl; have t1 := T1.out.cell (i := 1) rfl; have t2 := T1.out.cell (i := 2) rfl; have t3 := T1.out.cell (i := 3) rfl; clear b1)
          go_returns
          rw [HE.out]
          exact ⟨rfl, F1⟩
      · obtain rfl : k = n := by omega
        have e1 : rs.take k = rs := List.take_of_length_le (by omega)
        rw [e1] at HAL HB
        obtain ⟨hll, htl⟩ := textT_len (e := e) HAL.out (by omega)
        have hwl := word_len e
        have hT : textT ⟨rs, e⟩ = linesT rs ++ ([101, 108, 115, 101, 32] ++ wordT e ++ [10]) := by simp [textT]
        have HT := Lib.hid hT
        have HE := Lib.hid (linesV_t (HBR.out.trans HAL.out))
        have k1 := K1.out
        have hC := verdictName_c e
        obtain ⟨WV, hWV⟩ : ∃ l, wordT e = l := ⟨_, rfl⟩
        rw [hWV] at hC hwl HT
        have HC := Lib.hid hC
        generalize linesT rs = L0 at *
        obtain ⟨S1, hS1⟩ : ∃ l, [101, 108, 115, 101, 32] ++ WV = l := ⟨_, rfl⟩
        obtain ⟨S2, hS2⟩ : ∃ l, S1 ++ [10] = l := ⟨_, rfl⟩
        have hl1 : S1.length = WV.length + 5 := by rw [← hS1]; simp
        have hl2 : S2.length = S1.length + 1 := by rw [← hS2]; simp
        have a1 : ∀ W, (Op.stringOp .add ⟨#[101, 108, 115, 101, 32]⟩ (str WV)).run Tryd.prog W = .ok (.string (str S1)) W := fun W => cat_run (a := [101, 108, 115, 101, 32]) hS1 (by simp; omega) W
        have a2 : ∀ W, (Op.stringOp .add (str S1) ⟨#[10]⟩).run Tryd.prog W = .ok (.string (str S2)) W := fun W => cat_run (b := [10]) hS2 (by simp; omega) W
        have n1 : L0.length + S2.length ≤ 140737488355328 := by omega
        rw [hS1, hS2] at HT
        clear hT hC hWV hS1 hS2 hl1 hl2 htl hll hwl e1
        go_wp2_with (first
          | (go_at_call 42; refine (HC.out _).mono ?_; rintro e w' ⟨rfl, rfl⟩)
          | (go_at_call 40; refine (writeStr_c (w.heap.size + 1) (w.heap.size + 1) L0 S2 _ HB.out n1 (by (try simp); omega)).mono ?_; rintro e w3 ⟨⟨n3, rfl⟩, q3, b3, o3⟩; have HB3 := Lib.hid q3; clear q3; have F3 := below_low (w := w) (below_via HF.out (by go_grown)) b3 (by omega); have hs3 := b3.size; (try simp at hs3); clear b3 o3)
          | (go_at_call 43; refine (string_c (w.heap.size + 1) (w.heap.size + 1) (L0 ++ S2) _ HB3.out (by (try simp); omega)).mono ?_; rintro e w4 ⟨rfl, b4⟩; have F4 := below_low (w := w) F3 b4 (by omega); clear b4))
        go_returns
        rw [HE.out, HT.out]
        exact ⟨rfl, F4⟩
  · have hb : polB ⟨rs, e⟩ = false := by
      simp [polB, ruleB.verB']; omega
    have HF := Lib.hid (linesV_f hb)
    clear hb hr hp
    go_enter Tryd.func29, Tryd.ntmps29
    go_wp2_with (go_at_call 38; refine (verdictOk_c _ _).mono ?_; rintro e w' ⟨rfl, rfl⟩)
    all_goals first
      | (go_returns; refine ⟨retv ?_, by go_grown⟩; rw [HF.out]; rfl)
      | (exfalso; simp [verB] at *; omega)
theorem policyWrite_c (A : Option Addr) (n c : Nat) (rs : List Rl) (e : Int) (w : World) (hr : RdR w w.heap.size A n rs) (hn : n ≤ 9223372036854775807) (hp : PT w w.heap.size) :
    Calls Tryd.prog 17 #[.agg #[.slice A n c, .int .i64 e]] w (RetB (.string (polS ⟨rs, e⟩)) w) := by
  have HR := Lib.hid hr
  have HP := Lib.hid hp
  have hC := fun W h1 h2 => policyLines_c A n c rs e W h1 hn h2
  clear hr hp
  by_cases hb : polB ⟨rs, e⟩ = true
  · rw [linesV_t hb] at hC
    have hS : polS ⟨rs, e⟩ = if 900 < (str (textT ⟨rs, e⟩)).size then ⟨#[]⟩ else str (textT ⟨rs, e⟩) := by
      rw [polS, polOk, hb, str_size]
      by_cases h : (textT ⟨rs, e⟩).length ≤ 900
      · rw [if_pos (by simp [h]), if_neg (by omega)]
      · rw [if_neg (by simp [h]), if_pos (by omega)]
    have HC := Lib.hid hC
    have HS := Lib.hid hS
    clear hC hS hb
    generalize str (textT ⟨rs, e⟩) = S at *
    go_enter Tryd.func17, Tryd.ntmps17
    go_wp2_with (go_at_call 29; refine (HC.out _ (HR.out.upB (by go_grown) (by go_size)) ((HP.out.below (by go_grown)).more (by simp))).mono ?_; rintro e w1 ⟨rfl, b1⟩; obtain ⟨gc1, gf1⟩ := below_get b1; (try simp only [heap_drew, World.size_alloc, World.size_setCell] at gc1 gf1); have s1 := below_via (w := w) (by go_grown) b1; have H1 := s1; have hs1 := b1.size; (try simp at hs1); have z1_0 : w.heap.size < w1.heap.size := (by omega); clear b1)
    all_goals go_returns
    all_goals go_light
    all_goals (rw [HS.out]; refine ⟨retv ?_, by go_grown⟩; simp at *; try omega)
  · have hb' : polB ⟨rs, e⟩ = false := by simpa using hb
    rw [linesV_f hb'] at hC
    have hS : polS ⟨rs, e⟩ = ⟨#[]⟩ := by rw [polS, polOk_false hb']; rfl
    have HC := Lib.hid hC
    have HS := Lib.hid hS
    clear hC hS hb hb'
    go_enter Tryd.func17, Tryd.ntmps17
    go_wp2_with (go_at_call 29; refine (HC.out _ (HR.out.upB (by go_grown) (by go_size)) ((HP.out.below (by go_grown)).more (by simp))).mono ?_; rintro e w1 ⟨rfl, b1⟩; obtain ⟨gc1, gf1⟩ := below_get b1; (try simp only [heap_drew, World.size_alloc, World.size_setCell] at gc1 gf1); have s1 := below_via (w := w) (by go_grown) b1; have H1 := s1; have hs1 := b1.size; (try simp at hs1); have z1_0 : w.heap.size < w1.heap.size := (by omega); clear b1)
    all_goals go_returns
    all_goals (rw [HS.out]; exact ⟨rfl, by go_grown⟩)
theorem polS_empty (p : Pol) : (polS p).toList.isEmpty = !polOk p := by
  rw [← decide_eq_emptyBytes]
  by_cases h : polOk p = true
  · rw [h, polS, if_pos h]
    have h1 : (str (textT p)).size ≠ 0 := by rw [str_size]; simp [textT]
    simp only [Bool.not_true, decide_eq_false_iff_not]
    intro e; rw [e] at h1; exact h1 rfl
  · have h' : polOk p = false := by simpa using h
    rw [h', polS, if_neg h]; simp; rfl
theorem policyOk_c (A : Option Addr) (n c : Nat) (rs : List Rl) (e : Int) (w : World) (hr : RdR w w.heap.size A n rs) (hn : n ≤ 9223372036854775807) (hp : PT w w.heap.size) :
    Calls Tryd.prog 7 #[.agg #[.slice A n c, .int .i64 e]] w (RetB (.bool (polOk ⟨rs, e⟩)) w) := by
  have HR := Lib.hid hr
  have HP := Lib.hid hp
  have hE := polS_empty ⟨rs, e⟩
  have HC := Lib.hid (fun W h1 h2 => policyWrite_c A n c rs e W h1 hn h2)
  have HE := Lib.hid hE
  clear hr hp hE
  generalize polS ⟨rs, e⟩ = S at *
  go_enter Tryd.func7, Tryd.ntmps7
  go_wp2_with (go_at_call 17; refine (HC.out _ (HR.out.upB (by go_grown) (by go_size)) ((HP.out.below (by go_grown)).more (by simp))).mono ?_; rintro e w1 ⟨rfl, b1⟩; obtain ⟨gc1, gf1⟩ := below_get b1; (try simp only [heap_drew, World.size_alloc, World.size_setCell] at gc1 gf1); have s1 := below_via (w := w) (by go_grown) b1; have H1 := s1; have hs1 := b1.size; (try simp at hs1); have z1_0 : w.heap.size < w1.heap.size := (by omega); clear b1)
  go_returns
  go_light
  refine ⟨retv ?_, by go_grown⟩
  rw [show polOk ⟨rs, e⟩ = !S.toList.isEmpty from by rw [HE.out, Bool.not_not]]
  rfl
end Go.Proofs.YtmfienlceobfeaaDoor
