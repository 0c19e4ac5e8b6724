/- The program's writing of rules. Conditions: each contract's own. -/
import Derived.Test.YtmfienlceobfeaaDoorJdcae5fec2b
import Derived.Test.YtmfienlceobfeaaDoorJafc305d357
namespace Go.Proofs.YtmfienlceobfeaaDoor
set_option linter.unusedSimpArgs false
open Go.RowKit
set_option linter.unusedVariables false
set_option linter.unnecessarySimpa false
set_option maxRecDepth 20000
theorem bld_new (T e : TypeId) (w : World) : Lib.IsBuilderF T e w.heap.size w.heap.size [] (w.alloc (.cells #[.pointer none, .slice none 0 0] T)) :=
  .inl ⟨Nat.le_refl _, .slice none 0 0, heap_alloc_new w _, ⟨rfl, .inl ⟨rfl, rfl⟩⟩, by simp [Value.ownBlock]⟩
theorem below_low {w W w2 : World} {B : Nat} (h : Below w.heap.size w W) (hb : Below B W w2) (hB : w.heap.size ≤ B) : Below w.heap.size w w2 := h.trans (hb.mono hB)
theorem Blk.kept {w w' : World} {g t e b : Nat} {cs : List Value} (h : Blk w g t cs) (ho : Lib.OthersKept e (some b) w w') (hg : g ≠ b) (ht : t ≠ e) : Blk w' g t cs :=
  ho g _ h (by intro e; injection e with e; exact hg e) (by rintro c fz e; injection e with _ e2 _; exact ht e2)
set_option maxHeartbeats 4000000 in
theorem writeRule_c (r : Rl) (TA : Option Addr) (tc : Nat) (w : World) (hok : ruleB r = true) (hr : Rd w w.heap.size 4 TA r.ts.length (tsts r.ts)) (hp : PT w w.heap.size) :
    Calls Tryd.prog 41 #[.agg #[.int .i64 r.v, .int .i64 r.lo, .int .i64 r.hi, .slice TA r.ts.length tc]] w (RetB (.string (str (lineT r))) w) := by
  have hA := rule_and hok
  obtain ⟨hv, hlo, hlh, hhi, htl, hall⟩ := hA
  have hdl := dec_len (n := r.lo) (by omega)
  have hdh := dec_len (n := r.hi) (by omega)
  have hwl := word_len r.v
  have hC1 := verdictName_c r.v
  have hC2 := itoa_c r.lo (by omega) (by omega)
  have hC3 := itoa_c r.hi (by omega) (by omega)
  obtain ⟨WV, hWV⟩ : ∃ l, l = wordT r.v := ⟨_, rfl⟩
  obtain ⟨DL, hDL⟩ : ∃ l, l = dec r.lo := ⟨_, rfl⟩
  obtain ⟨DH, hDH⟩ : ∃ l, l = dec r.hi := ⟨_, rfl⟩
  obtain ⟨HD, hHD⟩ : ∃ l, l = headT r := ⟨_, rfl⟩
  have hHl := head_len hok
  have hHe : HD = WV ++ [32] ++ DL ++ (if r.hi ≠ r.lo then [45] ++ DH else []) := by rw [hHD, hWV, hDL, hDH]; rfl
  have hLe : lineT r = HD ++ testsT r.ts ++ [10] := by rw [hHD]; rfl
  have hfin : ((HD ++ testsT r.ts).length + 1) ≤ 1000 := by
    have := tests_len hall
    rw [← hHD] at hHl
    simp; omega
  rw [← hWV] at hwl hC1
  rw [← hDL] at hdl hC2
  rw [← hDH] at hdh hC3
  rw [← hHD] at hHl
  have HC1 := Lib.hid hC1
  have HC2 := Lib.hid hC2
  have HC3 := Lib.hid hC3
  have HR := Lib.hid hr
  have HA := Lib.hid hall
  have HLE := Lib.hid hLe
  have HFIN := Lib.hid hfin
  have HP := Lib.hid hp
  obtain ⟨S1, hS1⟩ : ∃ l, WV ++ [32] = l := ⟨_, rfl⟩
  obtain ⟨S2, hS2⟩ : ∃ l, S1 ++ DL = l := ⟨_, rfl⟩
  obtain ⟨S3, hS3⟩ : ∃ l, [45] ++ DH = l := ⟨_, rfl⟩
  have hn1 : r.hi ≠ r.lo → S2 ++ S3 = HD := fun h => by rw [hHe, if_pos h, ← hS3, ← hS2, ← hS1]
  have hn2 : r.hi = r.lo → S2 = HD := fun h => by rw [hHe, if_neg (by simp [h]), ← hS2, ← hS1]; simp
  have hl1 : S1.length = WV.length + 1 := by rw [← hS1]; simp
  have hl2 : S2.length = S1.length + DL.length := by rw [← hS2]; simp
  have hl3 : S3.length = DH.length + 1 := by rw [← hS3]; simp
  have a1 : ∀ W, (Op.stringOp .add (str WV) ⟨#[32]⟩).run Tryd.prog W = .ok (.string (str S1)) W := fun W => cat_run (a := WV) (b := [32]) hS1 (by simp; omega) W
  have a2 : ∀ W, (Op.stringOp .add (str S1) (str DL)).run Tryd.prog W = .ok (.string (str S2)) W := fun W => cat_run hS2 (by omega) W
  have a3 : ∀ W, (Op.stringOp .add ⟨#[45]⟩ (str DH)).run Tryd.prog W = .ok (.string (str S3)) W := fun W => cat_run (a := [45]) hS3 (by simp; omega) W
  have hL2 : S2.length ≤ 100 := by omega
  have hL3 : S3.length ≤ 100 := by omega
  have HN1 := Lib.hid hn1
  have HN2 := Lib.hid hn2
  have HB0 := Lib.hid (bld_new 74 5 (w.alloc (.cells #[.int .i64 r.v, .int .i64 r.lo, .int .i64 r.hi, .slice TA r.ts.length tc] 37)))
  clear hC1 hC2 hC3 hWV hDL hDH hHD hHe hr hall hLe hv hok hS1 hS2 hS3 hl1 hl2 hl3 hn1 hn2 hfin hp
  simp only [World.size_alloc] at HB0
  go_enter Tryd.func41, Tryd.ntmps41
  go_wp2_with fail
  go_region_held3 (fun w' => w'.cell? ⟨w.heap.size, 0, none⟩ = some (.int .i64 r.v) ∧ w'.cell? ⟨w.heap.size, 1, none⟩ = some (.int .i64 r.lo) ∧ w'.cell? ⟨w.heap.size, 2, none⟩ = some (.int .i64 r.hi) ∧ w'.cell? ⟨w.heap.size, 3, none⟩ = some (.slice TA r.ts.length tc)) (simp [go_sem, *])
    (first
      | (go_at_call 42; refine (HC1.out _).mono ?_; rintro e w' ⟨rfl, rfl⟩)
      | (go_at_call 50; refine (HC2.out _ w.heap.size (HP.out.below (by go_grown))).mono ?_; rintro e w1 ⟨rfl, b1⟩; have HB1 := Lib.hid (bld_below HB0.out (below_via (by go_grown) b1)); obtain ⟨gc1, gf1⟩ := below_get b1; (try simp only [heap_drew, World.size_alloc, World.size_setCell] at gc1 gf1); have s1 := below_via (w := w) (by go_grown) b1; have H1 := s1; have hs1 := b1.size; (try simp at hs1); have z1_0 : w.heap.size < w1.heap.size := (by omega); have z1_1 : w.heap.size + 1 < w1.heap.size := (by omega); clear b1)
      | (go_at_call 40; refine (writeStr_c (w.heap.size + 1) (w.heap.size + 1) [] S2 _ HB1.out (by (try simp); omega) (by (try simp); omega)).mono ?_; rintro e w2 ⟨⟨n2, rfl⟩, q2, b2, o2⟩; have HB2 := Lib.hid q2; clear q2; obtain ⟨gc2, gf2⟩ := below_get b2; (try simp only [heap_drew, World.size_alloc, World.size_setCell] at gc2 gf2); have F2 := below_low (w := w) (by go_grown) b2 (by omega); have hs2 := b2.size; (try simp at hs2); clear b2 o2))
  rename (_ ∧ _) => hH
  obtain ⟨k0, k1, k2, k3⟩ := hH
  go_upto_if 19 with (fail)
  go_cut [19] from 20 to 24 (fun v19 wx => Hid (Lib.IsBuilderF 74 5 (w.heap.size + 1) (w.heap.size + 1) (Lib.byteCells HD) wx) ∧ Hid (wx.cell? ⟨w.heap.size, 3, none⟩ = some (.slice TA r.ts.length tc)) ∧ Hid (Below w.heap.size w wx) ∧ w.heap.size + 1 < wx.heap.size)
  case first =>
    by_cases hne : r.hi = r.lo
    · have e := HN2.out hne
      go_wp2_with fail
      go_meet
      exact ⟨by rw [← e]; exact HB2, k3, F2, by omega⟩
    · have e := HN1.out hne
      have HE := Lib.hid e
      clear e
      go_wp2_with (first
        | (go_at_call 50; refine (HC3.out _ w.heap.size (HP.out.below F2)).mono ?_; rintro e w3 ⟨rfl, b3⟩; have HB3 := Lib.hid (bld_below HB2.out b3); have k33 := (b3.cell (p := ⟨w.heap.size, 3, none⟩) (show w.heap.size < w2.heap.size by omega)).trans k3; have F3 := below_via F2 b3; have hs3 := b3.size; clear b3)
        | (go_at_call 40; refine (writeStr_c (w.heap.size + 1) (w.heap.size + 1) ([] ++ S2) S3 _ HB3.out (by simp; omega) (by omega)).mono ?_; rintro e w4 ⟨⟨n4, rfl⟩, q4, b4, o4⟩; have HB4 := Lib.hid q4; clear q4; have k34 := (b4.cell (p := ⟨w.heap.size, 3, none⟩) (show w.heap.size < w.heap.size + 1 by omega)).trans k33; have F4 := below_low (w := w) F3 b4 (by omega); have hs4 := b4.size; clear b4 o4))
      go_meet
      exact ⟨by rw [← HE.out]; exact HB4, k34, F4, by omega⟩
  case rest =>
    obtain ⟨HB, K3, HF, hz⟩ := hcut
    clear a1 a2 a3 HN1 HN2 HC1 HC2 HC3 k0 k1 k2 k3 hwl hdl hdh hL2 hL3 F2 HB0 HB1 HB2
    have k3 := K3.out
    go_wp2
    go_loopg [28] r.ts.length (fun gk i wr => ∃ k : Nat, gk + k = r.ts.length ∧ i = .int .i64 k ∧ Hid (Lib.IsBuilderF 74 5 (w.heap.size + 1) (w.heap.size + 1) (Lib.byteCells (HD ++ testsT (r.ts.take k))) wr) ∧ Hid (Below w.heap.size w wr) ∧ w.heap.size + 1 < wr.heap.size)
    case atStart => exact ⟨0, by omega, by rfl, by rw [show HD ++ testsT (r.ts.take 0) = HD from by simp [testsT]]; exact HB, HF, hz⟩
    case round =>
      obtain ⟨k, hk, rfl, HB, HF, hz⟩ := hrel
      have hbs := HF.out.size
      by_cases hlt : k < r.ts.length
      · obtain ⟨gk, rfl⟩ : ∃ m, gk = m + 1 := ⟨gk - 1, by omega⟩
        obtain ⟨b, off, t, rfl, hb, ht, c0, c1, c2, c3⟩ := (HR.out.below HF.out).tst hlt
        have ha := tests_len (take_all_of k HA.out)
        have hok : tstB t = true := by
          have := HA.out
          rw [List.all_eq_true] at this
          exact this t (List.mem_of_getElem? ht)
        have hkk : (r.ts.take k).length ≤ 4 := by rw [List.length_take]; omega
        obtain ⟨hf0, hf1, hm0, hm1, hx0, hx1, hop⟩ := tst_and hok
        have hdf := dec_len (n := t.f) (by omega)
        have hdm := dec_len (n := t.m) (by omega)
        have hdx := dec_len (n := t.x) (by omega)
        have hC1 := itoa_c t.f (by omega) (by omega)
        have hC2 := itoa_c t.m (by omega) (by omega)
        have hC3 := itoa_c t.x (by omega) (by omega)
        have hC4 := sign_c t.op
        have hgl := sign_len t.op
        have hS0l : (HD ++ testsT (r.ts.take k)).length ≤ 27 + 34 * 4 := by simp; omega
        have hcat := fun S => @test_cat r.ts k t HD S ht
        obtain ⟨SE, hSEq⟩ : ∃ l, HD ++ testsT (r.ts.take (k + 1)) = l := ⟨_, rfl⟩
        rw [hSEq] at hcat
        have HSQ := Lib.hid hSEq
        generalize dec t.f = DF at *
        generalize dec t.m = DM at *
        generalize dec t.x = DX at *
        generalize signT t.op = G at *
        obtain ⟨S0, hS0⟩ : ∃ l, HD ++ testsT (r.ts.take k) = l := ⟨_, rfl⟩
        rw [hS0] at hS0l hcat HB
        obtain ⟨S1, hS1⟩ : ∃ l, [32, 97] ++ DF = l := ⟨_, rfl⟩
        obtain ⟨S3, hS3⟩ : ∃ l, [38] ++ DM = l := ⟨_, rfl⟩
        obtain ⟨S5, hS5⟩ : ∃ l, l = if t.m = 4294967295 then S0 ++ S1 else S0 ++ S1 ++ S3 := ⟨_, rfl⟩
        obtain ⟨S6, hS6⟩ : ∃ l, G ++ DX = l := ⟨_, rfl⟩
        have hl1 : S1.length = DF.length + 2 := by rw [← hS1]; simp
        have hl3 : S3.length = DM.length + 1 := by rw [← hS3]; simp
        have hl5 : S5.length ≤ S0.length + S1.length + S3.length := by rw [hS5]; split <;> simp <;> omega
        have hl6 : S6.length = G.length + DX.length := by rw [← hS6]; simp
        have hSE : S5 ++ S6 = SE := by
          rw [← hcat S5 (by rw [hS5, ← hS1, ← hS3]; simp), ← hS6]; simp
        have a1 : ∀ W, (Op.stringOp .add ⟨#[32, 97]⟩ (str DF)).run Tryd.prog W = .ok (.string (str S1)) W := fun W => cat_run (a := [32, 97]) hS1 (by simp; omega) W
        have a3 : ∀ W, (Op.stringOp .add ⟨#[38]⟩ (str DM)).run Tryd.prog W = .ok (.string (str S3)) W := fun W => cat_run (a := [38]) hS3 (by simp; omega) W
        have a5 : ∀ W, (Op.stringOp .add (str G) (str DX)).run Tryd.prog W = .ok (.string (str S6)) W := fun W => cat_run hS6 (by omega) W
        have n1 : S0.length + S1.length ≤ 140737488355328 := by omega
        have n3 : (S0 ++ S1).length + S3.length ≤ 140737488355328 := by simp; omega
        have n5 : S5.length + S6.length ≤ 140737488355328 := by omega
        have HC1 := Lib.hid hC1
        have HC2 := Lib.hid hC2
        have HC3 := Lib.hid hC3
        have HC4 := Lib.hid hC4
        have H5 := Lib.hid hS5
        have HSE := Lib.hid hSE
        have HTB := Lib.hid (Blk.new wr 52 [.int .i64 t.f, .int .i64 t.m, .int .i64 t.op, .int .i64 t.x])
        clear hC1 hC2 hC3 hC4 hS0 hS1 hS3 hS5 hS6 hSE hl1 hl3 hl5 hl6 hcat hdf hdm hdx ha hok hkk hS0l hop ht hgl hSEq
        go_upto_if 39 with (first
          | (go_at_call 50; refine (HC1.out _ w.heap.size (HP.out.below (show Below w.heap.size w _ from below_via HF.out (by go_grown)))).mono ?_; rintro e w1 ⟨rfl, b1⟩; have HB1 := Lib.hid (bld_below HB.out (below_via (w := wr) (by go_grown) b1)); have T1 := Lib.hid (HTB.out.below b1 (by simp)); have F1 := below_on HF.out (by go_grown) b1; have hs1 := b1.size; (try simp at hs1); clear b1)
          | (go_at_call 40; refine (writeStr_c (w.heap.size + 1) (w.heap.size + 1) S0 S1 _ HB1.out n1 (by omega)).mono ?_; rintro e w2 ⟨⟨n2, rfl⟩, q2, b2, o2⟩; have HB2 := Lib.hid q2; clear q2; have T2 := Lib.hid (T1.out.kept o2 (by omega) (by decide)); have c21 := T2.out.cell (i := 1) rfl; have F2 := below_low (w := w) F1 b2 (by omega); have hs2 := b2.size; (try simp at hs2); clear b2 o2))
        go_cut [39] from 40 to 44 (fun v39 wx => Hid (Lib.IsBuilderF 74 5 (w.heap.size + 1) (w.heap.size + 1) (Lib.byteCells S5) wx) ∧ Hid (Blk wx wr.heap.size 52 [.int .i64 t.f, .int .i64 t.m, .int .i64 t.op, .int .i64 t.x]) ∧ Hid (Below w.heap.size w wx) ∧ wr.heap.size < wx.heap.size)
        case first =>
          by_cases hm : t.m = 4294967295
          · have e : S5 = S0 ++ S1 := by rw [H5.out, if_pos hm]
            go_wp2_with fail
            go_meet
            exact ⟨by rw [e]; exact HB2, T2, F2, by omega⟩
          · have e : S5 = S0 ++ S1 ++ S3 := by rw [H5.out, if_neg hm]
            have HE := Lib.hid e
            clear e
            go_wp2_with (first
              | (go_at_call 50; refine (HC2.out _ w.heap.size (HP.out.below F2)).mono ?_; rintro e w3 ⟨rfl, b3⟩; have HB3 := Lib.hid (bld_below HB2.out b3); have T3 := Lib.hid (T2.out.up b3); have F3 := below_via F2 b3; have hs3 := b3.size; clear b3)
              | (go_at_call 40; refine (writeStr_c (w.heap.size + 1) (w.heap.size + 1) (S0 ++ S1) S3 _ HB3.out n3 (by omega)).mono ?_; rintro e w4 ⟨⟨n4, rfl⟩, q4, b4, o4⟩; have HB4 := Lib.hid q4; clear q4; have T4 := Lib.hid (T3.out.kept o4 (by omega) (by decide)); have F4 := below_low (w := w) F3 b4 (by omega); have hs4 := b4.size; clear b4 o4))
            go_meet
            exact ⟨by rw [HE.out]; exact HB4, T4, F4, by omega⟩
        case rest =>
          obtain ⟨HB5, T5, F5, hz5⟩ := hcut
          clear a1 a3 c0 c1 c2 c3 c21 HB1 HB2 T1 T2 n1 n3
          have d5 := T5.out.cell (i := 2) rfl
          have d6 := T5.out.cell (i := 3) rfl
          go_wp2_with fail
          go_region_held3 (fun w' => w'.cell? ⟨wr.heap.size, 2, none⟩ = some (.int .i64 t.op) ∧ w'.cell? ⟨wr.heap.size, 3, none⟩ = some (.int .i64 t.x)) (simp [go_sem, *])
            (first
              | (go_at_call 51; refine (HC4.out _).mono ?_; rintro e w' ⟨rfl, rfl⟩)
              | (go_at_call 50; refine (HC3.out _ w.heap.size (HP.out.below (show Below w.heap.size w _ from below_via F5.out (by go_grown)))).mono ?_; rintro e w6 ⟨rfl, b6⟩; have HB6 := Lib.hid (bld_below HB5.out (below_via (w := wc) (by go_grown) b6)); have F6 := below_on F5.out (by go_grown) b6; have hs6 := b6.size; (try simp at hs6); obtain ⟨gc6, gf6⟩ := below_get b6; (try simp only [heap_drew, World.size_alloc, World.size_setCell] at gc6 gf6); have T6 := Lib.hid (T5.out.up (below_via (w := wc) (by go_grown) b6)); have e62 := T6.out.cell (i := 2) rfl; have e63 := T6.out.cell (i := 3) rfl; clear b6)
              | (go_at_call 40; refine (writeStr_c (w.heap.size + 1) (w.heap.size + 1) S5 S6 _ HB6.out n5 (by (try simp); omega)).mono ?_; rintro e w7 ⟨⟨n7, rfl⟩, q7, b7, o7⟩; have HB7 := Lib.hid q7; clear q7; have T7 := Lib.hid (Blk.kept (show Blk _ _ _ _ from T6.out) o7 (by omega) (by decide)); have e72 := T7.out.cell (i := 2) rfl; have e73 := T7.out.cell (i := 3) rfl; have F7 := below_low (w := w) (below_via F6 (by go_grown)) b7 (by omega); have hs7 := b7.size; (try simp at hs7); clear b7 o7))
          all_goals
            go_wp2_with fail
            go_roundg gk
            case measure => omega
            case rel =>
              go_light
              exact ⟨k + 1, by omega, by go_num, by rw [HSQ.out, ← HSE.out]; exact HB7, F7, by omega⟩
      · have hkn : k = r.ts.length := by omega
        have e : r.ts.take k = r.ts := by rw [hkn]; exact List.take_length
        rw [e] at HB
        have hf := HFIN.out
        have n1 : (HD ++ testsT r.ts).length + [10].length ≤ 140737488355328 := by simp at hf ⊢; omega
        obtain ⟨S0, hS0⟩ : ∃ l, HD ++ testsT r.ts = l := ⟨_, rfl⟩
        rw [hS0] at HB n1
        have HS0 := Lib.hid hS0
        clear e hf hS0
        go_wp2_with (first
          | (go_at_call 40; refine (writeStr_c (w.heap.size + 1) (w.heap.size + 1) S0 [10] _ HB.out n1 (by (try simp); omega)).mono ?_; rintro e w2 ⟨⟨n2, rfl⟩, q2, b2, o2⟩; have HB2 := Lib.hid q2; clear q2; have F2 := below_low (w := w) HF.out b2 (by omega); have hs2 := b2.size; (try simp at hs2); clear b2 o2)
          | (go_at_call 43; refine (string_c (w.heap.size + 1) (w.heap.size + 1) (S0 ++ [10]) _ HB2.out (by (try simp); omega)).mono ?_; rintro e w3 ⟨rfl, b3⟩; have F3 := below_low (w := w) F2 b3 (by omega); clear b3))
        go_returns
        rw [HLE.out, HS0.out]
        exact ⟨rfl, F3⟩
end Go.Proofs.YtmfienlceobfeaaDoor
