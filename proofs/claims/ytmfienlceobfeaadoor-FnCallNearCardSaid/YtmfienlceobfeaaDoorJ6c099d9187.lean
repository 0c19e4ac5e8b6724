/- The reference's PolicyOk and PolicyWrite. Conditions: each contract's own. -/
import Derived.Test.YtmfienlceobfeaaDoorJafc305d357
import Derived.Test.YtmfienlceobfeaaDoorJec36921183
namespace Go.Proofs.YtmfienlceobfeaaDoor
set_option linter.unusedSimpArgs false
open Go.RowKit
set_option linter.unusedVariables false
set_option linter.unnecessarySimpa false
set_option maxRecDepth 20000
set_option maxHeartbeats 1600000 in
theorem write_c (A : Option Addr) (n c : Nat) (rs : List Rl) (e : Int) (w : World) (hb : rs.all ruleB = true) (hn : n ≤ 8) (he : ruleB.verB' e = true) (hr : RdR w w.heap.size A n rs) :
    Calls Tryd.prog 20 #[.agg #[.slice A n c, .int .i64 e]] w (RetB (.string (str (textT ⟨rs, e⟩))) w) := by
  have hl := hr.1
  have hwl := word_len e
  have hC := word_c e he
  have hT : textT ⟨rs, e⟩ = linesT rs ++ [101, 108, 115, 101, 32] ++ wordT e ++ [10] := by simp [textT]
  rw [hT]
  have hll := lines_len hb
  obtain ⟨WV, hWV⟩ : ∃ l, l = wordT e := ⟨_, rfl⟩
  obtain ⟨S0, hS0⟩ : ∃ l, l = linesT rs := ⟨_, rfl⟩
  rw [← hWV] at hwl hC ⊢
  rw [← hS0] at hll ⊢
  obtain ⟨S1, hS1⟩ : ∃ l, S0 ++ [101, 108, 115, 101, 32] = l := ⟨_, rfl⟩
  obtain ⟨S2, hS2⟩ : ∃ l, S1 ++ WV = l := ⟨_, rfl⟩
  obtain ⟨S3, hS3⟩ : ∃ l, S2 ++ [10] = l := ⟨_, rfl⟩
  rw [hS1, hS2, hS3]
  have hl1 : S1.length = S0.length + 5 := by rw [← hS1]; simp
  have hl2 : S2.length = S1.length + WV.length := by rw [← hS2]; simp
  have a1 : ∀ W, (Op.stringOp .add (str S0) ⟨#[101, 108, 115, 101, 32]⟩).run Tryd.prog W = .ok (.string (str S1)) W := fun W => cat_run (b := [101, 108, 115, 101, 32]) hS1 (by simp; omega) W
  have a2 : ∀ W, (Op.stringOp .add (str S1) (str WV)).run Tryd.prog W = .ok (.string (str S2)) W := fun W => cat_run hS2 (by omega) W
  have a3 : ∀ W, (Op.stringOp .add (str S2) ⟨#[10]⟩).run Tryd.prog W = .ok (.string (str S3)) W := fun W => cat_run (b := [10]) hS3 (by simp; omega) W
  have HR := Lib.hid hr
  have HB := Lib.hid hb
  have HC := Lib.hid hC
  have HS0 := Lib.hid hS0
  have HA := Lib.hid (And.intro a1 (And.intro a2 a3))
  clear hr hb hC hS1 hS2 hS3 hl1 hl2 hWV hT hS0 a1 a2 a3 he
  go_enter Tryd.func20, Tryd.ntmps20
  go_wp2
  go_loopw [3, 4] (fun o i wr => ∃ k : Nat, k ≤ n ∧ o = .string (str (linesT (rs.take k))) ∧ i = .int .i64 k ∧ Hid (wr.cell? ⟨w.heap.size, 0, none⟩ = some (.slice A n c)) ∧ Hid (wr.cell? ⟨w.heap.size, 1, none⟩ = some (.int .i64 e)) ∧ Hid (Below w.heap.size w wr) ∧ w.heap.size < wr.heap.size) (fun _ i _ => n - (intOf i).toNat)
  case atStart => exact ⟨0, by omega, by rfl, by rfl, Lib.hid (by simp), Lib.hid (by simp), by show Below _ _ _; go_grown, by simp⟩
  case round =>
    obtain ⟨k, hk, rfl, rfl, K0, K1, HBe, hz⟩ := hrel
    have k0 := K0.out
    have k1 := K1.out
    have hbs := HBe.out.size
    by_cases hlt : k < n
    · obtain ⟨b, off, r, rfl, hb, hp, TA, tc, c0, c1, c2, c3, hrt, hrl⟩ := (HR.out.below HBe.out).rl hlt
      have ha := lines_len (take_all_of k HB.out)
      have hok : ruleB r = true := by
        have := HB.out
        rw [List.all_eq_true] at this
        exact this r (List.mem_of_getElem? hp)
      have hkk : (rs.take k).length ≤ 8 := by rw [List.length_take]; omega
      have hll := line_len hok
      have hC2 := fun W => line_c r TA tc W hok
      have hsu := linesT_succ hp
      have HT := Lib.hid (hrt.more hbs)
      generalize linesT (rs.take k) = L0 at *
      obtain ⟨L2, hL2⟩ : ∃ l, linesT (rs.take (k + 1)) = l := ⟨_, rfl⟩
      rw [hL2] at hsu
      have HL2 := Lib.hid hL2
      clear hL2
      generalize lineT r = L1 at *
      have a4 : ∀ W, (Op.stringOp .add (str L0) (str L1)).run Tryd.prog W = .ok (.string (str L2)) W := fun W => cat_run hsu.symm (by omega) W
      have HC2 := Lib.hid hC2
      clear hC2 hsu hok hp hrt ha hkk hll
      go_wp2_with (go_at_call 30; refine (HC2.out _ (HT.out.upB (by go_grown) (by go_size))).mono ?_; rintro e w1 ⟨rfl, b1⟩; obtain ⟨gc1, gf1⟩ := below_get b1; (try simp only [heap_drew, World.size_alloc, World.size_setCell] at gc1 gf1); have hb1 := below_on HBe.out (by go_grown) b1; have hc1 := below_via (w := wr) (by go_grown) b1; have hs1 := b1.size; (try simp at hs1))
      go_roundw
      case rel =>
        go_light
        exact ⟨k + 1, by omega, by rw [HL2.out], by go_num, Lib.hid (cell_keep (w := wr) (by go_grown) k0 (by show w.heap.size < _; omega)), Lib.hid (cell_keep (w := wr) (by go_grown) k1 (by show w.heap.size < _; omega)), by show Below _ _ _; go_grown, by (try simp); omega⟩
      case measure => simp [intOf]; omega
    · obtain rfl : k = n := by omega
      have e1 : rs.take k = rs := List.take_of_length_le (by omega)
      rw [e1, ← HS0.out]
      obtain ⟨a1, a2, a3⟩ := HA.out
      go_wp2_with (go_at_call 31; refine (HC.out _).mono ?_; rintro e w1 ⟨rfl, b1⟩; have hb1 := below_on HBe.out (by go_grown) b1)
      go_returns
      exact ⟨rfl, by go_grown⟩
def ruleHd (r : Rl) : Bool := ruleB.verB' r.v && wordB r.lo && wordB r.hi && decide (r.lo ≤ r.hi) && decide (r.ts.length ≤ 4)
theorem ruleB_eq (r : Rl) : ruleB r = (ruleHd r && r.ts.all tstB) := rfl
theorem ruleHd_iff (r : Rl) : ruleHd r = true ↔ (1 ≤ r.v ∧ r.v ≤ 4) ∧ (0 ≤ r.lo ∧ r.lo ≤ 4294967295) ∧ (r.lo ≤ r.hi ∧ r.hi ≤ 4294967295) ∧ r.ts.length ≤ 4 := by
  simp [ruleHd, ruleB.verB', wordB]; omega
theorem polOk_false {p : Pol} (h : polB p = false) : polOk p = false := by simp [polOk, h]
theorem polB_rules {rs : List Rl} {e : Int} (h : rs.all ruleB = false) : polB ⟨rs, e⟩ = false := by simp only [polB, h, Bool.and_false]
set_option maxHeartbeats 4000000 in
theorem specPolicyOk_c (A : Option Addr) (n c : Nat) (rs : List Rl) (e : Int) (w : World) (hr : RdR w w.heap.size A n rs) (hn : n ≤ 9223372036854775807) :
    Calls Tryd.prog 8 #[.agg #[.slice A n c, .int .i64 e]] w (RetB (.bool (polOk ⟨rs, e⟩)) w) := by
  have hl := hr.1
  by_cases hh : n ≤ 8 ∧ 1 ≤ e ∧ e ≤ 4
  · obtain ⟨h8, he1, he4⟩ := hh
    have hbr : polB ⟨rs, e⟩ = rs.all ruleB := by
      simp [polB, ruleB.verB', hl, h8, he1, he4]
    have HBR := Lib.hid hbr
    have HR := Lib.hid hr
    clear hr hbr
    go_enter Tryd.func8, Tryd.ntmps8
    go_wp2_with (go_at_call 18; refine (l1In_c _ _ _ _).mono ?_; rintro e w' ⟨rfl, rfl⟩)
    go_loopg [3] n (fun gk i wr => ∃ k : Nat, gk + k = n ∧ i = .int .i64 k ∧ Hid ((rs.take k).all ruleB = true) ∧ Hid (wr.cell? ⟨w.heap.size, 0, none⟩ = some (.slice A n c)) ∧ Hid (wr.cell? ⟨w.heap.size, 1, none⟩ = some (.int .i64 e)) ∧ Hid (Below w.heap.size w wr) ∧ w.heap.size < wr.heap.size)
    case atStart => exact ⟨0, by omega, by rfl, Lib.hid (by simp), Lib.hid (by simp), Lib.hid (by simp), by show Below _ _ _; go_grown, by simp⟩
    case round =>
      obtain ⟨k, hk, rfl, HAL, K0, K1, HF, hz⟩ := hrel
      have hbs := HF.out.size
      have k0 := K0.out
      have k1 := K1.out
      by_cases hlt : k < n
      · obtain ⟨go1, rfl⟩ : ∃ m, gk = m + 1 := ⟨gk - 1, by omega⟩
        obtain ⟨b, off, r, rfl, hb, hp, TA, tc, c0, c1, c2, c3, hrt, hrl⟩ := (HR.out.below HF.out).rl hlt
        have HT := Lib.hid (hrt.more hbs)
        have HPP := Lib.hid hp
        clear hrt hp
        obtain ⟨wo, rfl⟩ : ∃ x, x = wr := ⟨_, rfl⟩
        by_cases hd : ruleHd r = true
        · obtain ⟨⟨hv1, hv4⟩, ⟨hl0, hl1⟩, ⟨hh0, hh1⟩, ht4⟩ := (ruleHd_iff r).1 hd
          have HHD := Lib.hid hd
          have HTB := Lib.hid (Blk.new wo 37 [.int .i64 r.v, .int .i64 r.lo, .int .i64 r.hi, .slice TA r.ts.length tc])
          clear hd
          go_wp2_with (go_at_call 18; refine (l1In_c _ _ _ _).mono ?_; rintro e w' ⟨rfl, rfl⟩)
          go_loopg [5] r.ts.length (fun gk i wr => ∃ j : Nat, gk + j = r.ts.length ∧ i = .int .i64 j ∧ Hid ((r.ts.take j).all tstB = true) ∧ Hid (wr.cell? ⟨w.heap.size, 0, none⟩ = some (.slice (some ⟨b, off, none⟩) n c)) ∧ Hid (wr.cell? ⟨w.heap.size, 1, none⟩ = some (.int .i64 e)) ∧ Hid (wr.cell? ⟨wo.heap.size, 3, none⟩ = some (.slice TA r.ts.length tc)) ∧ Hid (Below w.heap.size w wr) ∧ Hid (Below wo.heap.size wo wr) ∧ wo.heap.size < wr.heap.size)
          case atStart => exact ⟨0, by omega, by rfl, Lib.hid (by simp), Lib.hid (cell_keep (w := wo) (by go_grown) k0 (by show w.heap.size < _; omega)), Lib.hid (cell_keep (w := wo) (by go_grown) k1 (by show w.heap.size < _; omega)), Lib.hid (HTB.out.cell (i := 3) rfl), Lib.hid (below_via HF.out (by go_grown)), by show Below _ _ _; go_grown, by simp⟩
          case round =>
            obtain ⟨j, hj, rfl, HAT, Q0, Q1, Q3, HF2, HF3, hz2⟩ := hrel
            have hbs2 := HF3.out.size
            have q0 := Q0.out
            have q1 := Q1.out
            have q3 := Q3.out
            by_cases hlt2 : j < r.ts.length
            · obtain ⟨gk, rfl⟩ : ∃ m, gk = m + 1 := ⟨gk - 1, by omega⟩
              obtain ⟨b2, off2, t, rfl, hb2, ht, d0, d1, d2, d3⟩ := (HT.out.below HF3.out).tst hlt2
              have HTT := Lib.hid ht
              have hC := specTestOk_c t.f t.m t.op t.x
              unfold testV at hC
              have HC := Lib.hid hC
              clear ht hC
              go_wp2_with (go_at_call 19; refine (HC.out _).mono ?_; rintro e w5 ⟨rfl, b5⟩; have hb5 := below_on HF2.out (by go_grown) b5; have hc5 := below_on HF3.out (by go_grown) b5; have hd5 := below_via (w := wr) (by go_grown) b5; have hs5 := b5.size; (try simp at hs5); clear b5)
              · go_returns
                go_light
                rename (_ = true) => h
                have e1 := all_false tstB r.ts j t HTT.out (by simpa [tstB] using h)
                have e2 : ruleB r = false := by rw [ruleB_eq, e1, Bool.and_false]
                have e3 := all_false ruleB rs k r HPP.out e2
                exact ⟨by rw [polOk_false (polB_rules e3)]; rfl, hb5⟩
              · go_roundg gk
                case measure => omega
                case rel =>
                  go_light
                  rename (_ = false) => h
                  exact ⟨j + 1, by omega, by go_num, by show _ = true; rw [take_all _ _ _ _ HTT.out, HAT.out]; simpa [tstB] using h, Lib.hid (cell_keep (w := wr) (by go_grown) q0 (by show w.heap.size < _; omega)), Lib.hid (cell_keep (w := wr) (by go_grown) q1 (by show w.heap.size < _; omega)), Lib.hid (cell_keep (w := wr) (by go_grown) q3 (by show wo.heap.size < _; omega)), by show Below _ _ _; go_grown, by show Below _ _ _; go_grown, by (try simp); omega⟩
            · have hjn : j = r.ts.length := by omega
              have e1 : r.ts.take j = r.ts := by rw [hjn]; exact List.take_length
              rw [e1] at HAT
              have e2 : ruleB r = true := by rw [ruleB_eq, HHD.out, HAT.out]; rfl
              have HE := Lib.hid e2
              clear e1 e2
              go_wp2_with fail
              go_roundg go1
              case measure => omega
              case rel =>
                go_light
                exact ⟨k + 1, by omega, by go_num, by show _ = true; rw [take_all _ _ _ _ HPP.out, HAL.out, HE.out]; rfl, Q0, Q1, HF2, by omega⟩
        · have hd' : ruleHd r = false := by simpa using hd
          have e2 : ruleB r = false := by rw [ruleB_eq, hd']; rfl
          have e3 := all_false ruleB rs k r HPP.out e2
          have HE := Lib.hid (polOk_false (polB_rules (e := e) e3))
          have HD := Lib.hid (fun h => hd ((ruleHd_iff r).2 h))
          clear hd hd' e2 e3
          go_wp2_with (go_at_call 18; refine (l1In_c _ _ _ _).mono ?_; rintro e w' ⟨rfl, rfl⟩)
          all_goals first
            | (go_returns; exact ⟨by rw [HE.out]; rfl, below_via HF.out (by go_grown)⟩)
            | (exfalso; have h := HD.out; simp at *; omega)
      · obtain rfl : k = n := by omega
        have e1 : rs.take k = rs := List.take_of_length_le (by omega)
        rw [e1] at HAL
        have hwr := write_c A k c rs e
        have hlen : ((textT ⟨rs, e⟩).length : Int) ≤ 900 ↔ (textT ⟨rs, e⟩).length ≤ 900 := by omega
        have hpo : polOk ⟨rs, e⟩ = decide (((str (textT ⟨rs, e⟩)).size : Int) ≤ 900) := by
          rw [polOk, HBR.out, HAL.out, str_size]; simp; omega
        have hv : ruleB.verB' e = true := by simp [ruleB.verB']; omega
        have HW := Lib.hid (fun W h => hwr W HAL.out h8 hv h)
        have HPO := Lib.hid hpo
        clear hwr hlen hpo hv e1
        generalize str (textT ⟨rs, e⟩) = S at *
        go_wp2_with (go_at_call 20; refine (HW.out _ ((HR.out.below (show Below w.heap.size w _ from below_via HF.out (by go_grown))).more (by (try simp); omega))).mono ?_; rintro e w5 ⟨rfl, b5⟩; have hb5 := below_on HF.out (by go_grown) b5)
        all_goals go_returns
        all_goals go_light
        all_goals (exact ⟨by rw [HPO.out]; rfl, hb5⟩)
  · have hb : polB ⟨rs, e⟩ = false := by
      simp [polB, ruleB.verB']; omega
    have hf := polOk_false hb
    have HF := Lib.hid hf
    clear hb hf hr
    go_enter Tryd.func8, Tryd.ntmps8
    go_wp2_with (go_at_call 18; refine (l1In_c _ _ _ _).mono ?_; rintro e w' ⟨rfl, rfl⟩)
    all_goals first
      | (go_returns; exact ⟨by rw [HF.out]; rfl, by go_grown⟩)
      | (exfalso; simp at *; omega)
def polS (p : Pol) : ByteArray := if polOk p then str (textT p) else ⟨#[]⟩
end Go.Proofs.YtmfienlceobfeaaDoor
