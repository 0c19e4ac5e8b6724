/- The reference's writing of rules and policies. Conditions: each contract's own. -/
import Derived.Test.YtmfienlceobfeaaDoorJ18208e71d5
import Derived.Laws.Concat
namespace Go.Proofs.YtmfienlceobfeaaDoor
set_option linter.unusedSimpArgs false
open Go.RowKit
set_option linter.unusedVariables false
set_option linter.unnecessarySimpa false
set_option maxRecDepth 20000
theorem cat_run {P : Program} {a b c : List UInt8} (h : a ++ b = c) (hs : a.length + b.length ≤ 9223372036854775807) (w : World) : (Op.stringOp .add (str a) (str b)).run P w = .ok (.string (str c)) w := by
  rw [← h, ← str_app]
  exact run_string_add_sum (P := P) (w := w) (str a) (str b) (by rw [str_size, str_size]; exact hs)
theorem ver_cases {v : Int} (h : ruleB.verB' v = true) : v = 1 ∨ v = 2 ∨ v = 3 ∨ v = 4 := by
  simp [ruleB.verB'] at h; omega
theorem tst_and {t : Tst} (h : tstB t = true) : 1 ≤ t.f ∧ t.f ≤ 4 ∧ 1 ≤ t.m ∧ t.m ≤ 4294967295 ∧ 0 ≤ t.x ∧ t.x ≤ 4294967295 ∧ (t.op = 1 ∨ t.op = 2 ∨ t.op = 3) := testB_and h
theorem rule_and {r : Rl} (h : ruleB r = true) : ruleB.verB' r.v = true ∧ 0 ≤ r.lo ∧ r.lo ≤ r.hi ∧ r.hi ≤ 4294967295 ∧ r.ts.length ≤ 4 ∧ r.ts.all tstB = true := by
  simp only [ruleB, Bool.and_eq_true, decide_eq_true_eq, wordB] at h
  obtain ⟨⟨⟨⟨⟨h1, h2⟩, h3⟩, h4⟩, h5⟩, h6⟩ := h
  exact ⟨h1, h2.1, h4, h3.2, h5, h6⟩
theorem sign_len (op : Int) : (signT op).length ≤ 1 := by unfold signT; repeat' split
                                                          all_goals simp
theorem word_len (v : Int) : (wordT v).length ≤ 5 := by unfold wordT; repeat' split
                                                        all_goals simp
theorem test_len {t : Tst} (h : tstB t = true) : (testT t).length ≤ 34 := by
  have h0 := tst_and h
  have h1 := dec_len (n := t.f) (by omega)
  have h2 := dec_len (n := t.m) (by omega)
  have h3 := dec_len (n := t.x) (by omega)
  have h4 := sign_len t.op
  unfold testT
  split <;> simp <;> omega
theorem tests_len {ts : List Tst} (h : ts.all tstB = true) : (testsT ts).length ≤ 34 * ts.length := by
  induction ts with
  | nil => simp [testsT]
  | cons t ts ih =>
    rw [List.all_cons, Bool.and_eq_true] at h
    have := ih h.2
    have h1 := test_len h.1
    simp [testsT] at this ⊢
    omega
theorem take_all_of {α : Type} {p : α → Bool} {l : List α} (k : Nat) (h : l.all p = true) : (l.take k).all p = true := by
  rw [List.all_eq_true] at h ⊢
  exact fun x hx => h x (List.mem_of_mem_take hx)
theorem head_len {r : Rl} (h : ruleB r = true) : (headT r).length ≤ 27 := by
  have h0 := rule_and h
  have h1 := dec_len (n := r.lo) (by omega)
  have h2 := dec_len (n := r.hi) (by omega)
  have h3 := word_len r.v
  unfold headT
  split <;> simp <;> omega
theorem line_len {r : Rl} (h : ruleB r = true) : (lineT r).length ≤ 164 := by
  have h0 := rule_and h
  have h1 := head_len h
  have h2 := tests_len h0.2.2.2.2.2
  unfold lineT
  simp
  omega
theorem lines_len {rs : List Rl} (h : rs.all ruleB = true) : (linesT rs).length ≤ 164 * rs.length := by
  induction rs with
  | nil => simp [linesT]
  | cons t ts ih =>
    rw [List.all_cons, Bool.and_eq_true] at h
    have := ih h.2
    have h1 := line_len h.1
    simp [linesT] at this ⊢
    omega
theorem word_c (v : Int) (hv : ruleB.verB' v = true) (w : World) : Calls Tryd.prog 31 #[.int .i64 v] w (RetB (.string (str (wordT v))) w) := by
  rcases ver_cases hv with rfl | rfl | rfl | rfl
  all_goals
    go_enter Tryd.func31, Tryd.ntmps31
    go_wp2
    go_returns
    exact ⟨rfl, by go_grown⟩
theorem decI_c (x : Int) (h0 : 0 ≤ x) (h1 : x ≤ 4294967295) (w : World) : Calls Tryd.prog 44 #[.int .i64 x] w (RetB (.string (str (dec x))) w) := by
  obtain ⟨k, rfl⟩ := Int.eq_ofNat_of_zero_le h0
  exact dec_c k (by omega) w
/-- What is written of a test, piece by piece. -/
theorem test_cat {ts : List Tst} {k : Nat} {t : Tst} {H S : List UInt8} (h : ts[k]? = some t)
    (hS : S = (if t.m = 4294967295 then H ++ testsT (ts.take k) ++ [32, 97] ++ dec t.f else H ++ testsT (ts.take k) ++ [32, 97] ++ dec t.f ++ [38] ++ dec t.m)) :
    S ++ signT t.op ++ dec t.x = H ++ testsT (ts.take (k + 1)) := by
  rw [testsT_succ h, hS]
  unfold testT
  by_cases hm : t.m = 4294967295
  · simp [hm]
  · simp [hm]
theorem cell_keep {w w' : World} {p : Addr} {v : Option Value} (h : Below w.heap.size w w') (hc : w.cell? p = v) (hp : p.block < w.heap.size) : w'.cell? p = v := (h.cell hp).trans hc
set_option maxHeartbeats 4000000 in
theorem line_c (r : Rl) (TA : Option Addr) (tc : Nat) (w : World) (hok : ruleB r = true) (hr : Rd w w.heap.size 4 TA r.ts.length (tsts r.ts)) :
    Calls Tryd.prog 30 #[.agg #[.int .i64 r.v, .int .i64 r.lo, .int .i64 r.hi, .slice TA r.ts.length tc]] w (RetB (.string (str (lineT r))) w) := by
  have hA := rule_and hok
  obtain ⟨hv, hlo, hlh, hhi, htl, hall⟩ := hA
  have hdl := dec_len (n := r.lo) (by omega)
  have hdh := dec_len (n := r.hi) (by omega)
  have hwl := word_len r.v
  have hC1 := word_c r.v hv
  have hC2 := decI_c r.lo (by omega) (by omega)
  have hC3 := decI_c r.hi (by omega) (by omega)
  obtain ⟨WV, hWV⟩ : ∃ l, l = wordT r.v := ⟨_, rfl⟩
  obtain ⟨DL, hDL⟩ : ∃ l, l = dec r.lo := ⟨_, rfl⟩
  obtain ⟨DH, hDH⟩ : ∃ l, l = dec r.hi := ⟨_, rfl⟩
  obtain ⟨HD, hHD⟩ : ∃ l, l = headT r := ⟨_, rfl⟩
  have hHl := head_len hok
  have hHe : HD = WV ++ [32] ++ DL ++ (if r.hi ≠ r.lo then [45] ++ DH else []) := by rw [hHD, hWV, hDL, hDH]; rfl
  have hLe : lineT r = HD ++ testsT r.ts ++ [10] := by rw [hHD]; rfl
  have hfin : ((HD ++ testsT r.ts).length + 1) ≤ 9223372036854775807 := by
    have := tests_len hall
    rw [← hHD] at hHl
    simp; omega
  rw [← hWV] at hwl hC1
  rw [← hDL] at hdl hC2
  rw [← hDH] at hdh hC3
  rw [← hHD] at hHl
  have HC1 := Lib.hid hC1
  have HC2 := Lib.hid hC2
  have HC3 := Lib.hid hC3
  have HR := Lib.hid hr
  have HA := Lib.hid hall
  have HLE := Lib.hid hLe
  have HFIN := Lib.hid hfin
  obtain ⟨S1, hS1⟩ : ∃ l, WV ++ [32] = l := ⟨_, rfl⟩
  obtain ⟨S2, hS2⟩ : ∃ l, S1 ++ DL = l := ⟨_, rfl⟩
  obtain ⟨S3, hS3⟩ : ∃ l, S2 ++ [45] = l := ⟨_, rfl⟩
  obtain ⟨S4, hS4⟩ : ∃ l, S3 ++ DH = l := ⟨_, rfl⟩
  have hn1 : r.hi ≠ r.lo → S4 = HD := fun h => by rw [hHe, if_pos h, ← hS4, ← hS3, ← hS2, ← hS1]; simp
  have hn2 : r.hi = r.lo → S2 = HD := fun h => by rw [hHe, if_neg (by simp [h]), ← hS2, ← hS1]; simp
  have hl1 : S1.length = WV.length + 1 := by rw [← hS1]; simp
  have hl2 : S2.length = S1.length + DL.length := by rw [← hS2]; simp
  have hl3 : S3.length = S2.length + 1 := by rw [← hS3]; simp
  have a1 : ∀ W, (Op.stringOp .add (str WV) ⟨#[32]⟩).run Tryd.prog W = .ok (.string (str S1)) W := fun W => cat_run (a := WV) (b := [32]) hS1 (by simp; omega) W
  have a2 : ∀ W, (Op.stringOp .add (str S1) (str DL)).run Tryd.prog W = .ok (.string (str S2)) W := fun W => cat_run hS2 (by omega) W
  have a3 : ∀ W, (Op.stringOp .add (str S2) ⟨#[45]⟩).run Tryd.prog W = .ok (.string (str S3)) W := fun W => cat_run (b := [45]) hS3 (by simp; omega) W
  have a4 : ∀ W, (Op.stringOp .add (str S3) (str DH)).run Tryd.prog W = .ok (.string (str S4)) W := fun W => cat_run hS4 (by omega) W
  have HN1 := Lib.hid hn1
  have HN2 := Lib.hid hn2
  clear hC1 hC2 hC3 hWV hDL hDH hHD hHe hr hall hLe hv hok hS1 hS2 hS3 hS4 hl1 hl2 hl3 hn1 hn2 hfin
  go_enter Tryd.func30, Tryd.ntmps30
  go_wp2_with fail
  go_region_held3 (fun w' => w'.cell? ⟨w.heap.size, 0, none⟩ = some (.int .i64 r.v) ∧ w'.cell? ⟨w.heap.size, 1, none⟩ = some (.int .i64 r.lo) ∧ w'.cell? ⟨w.heap.size, 2, none⟩ = some (.int .i64 r.hi) ∧ w'.cell? ⟨w.heap.size, 3, none⟩ = some (.slice TA r.ts.length tc)) (simp [go_sem, *])
    (first
      | (go_at_call 31; refine (HC1.out _).mono ?_; rintro e w1 ⟨rfl, b1⟩; obtain ⟨gc1, gf1⟩ := below_get b1; (try simp only [heap_drew, World.size_alloc, World.size_setCell] at gc1 gf1); have s1 := below_via (w := w) (by go_grown) b1; have H1 := s1; have hs1 := b1.size; (try simp at hs1); have z1_0 : w.heap.size < w1.heap.size := (by omega); clear b1)
      | (go_at_call 44; refine (HC2.out _).mono ?_; rintro e w2 ⟨rfl, b2⟩; obtain ⟨gc2, gf2⟩ := below_get b2; (try simp only [heap_drew, World.size_alloc, World.size_setCell] at gc2 gf2); have s2 := below_via (w := w1) (by go_grown) b2; have H2 := below_via H1 s2; have hs2 := b2.size; (try simp at hs2); have z2_0 : w.heap.size < w2.heap.size := (by omega); clear b2))
  rename (_ ∧ _) => hH
  obtain ⟨k0, k1, k2, k3⟩ := hH
  go_upto_if 18 with (fail)
  go_cut [3, 18] from 19 to 24 (fun v3 v18 wx => v3 = .string (str HD) ∧ Hid (wx.cell? ⟨w.heap.size, 3, none⟩ = some (.slice TA r.ts.length tc)) ∧ Hid (Below w.heap.size w wx) ∧ w.heap.size < wx.heap.size)
  case first =>
    by_cases hne : r.hi = r.lo
    · have e := HN2.out hne
      go_wp2_with fail
      go_meet
      exact ⟨by first | rfl | rw [e], k3, H2, by omega⟩
    · have e := HN1.out hne
      (go_wp2_with fail); (go_at_call 44; refine (HC3.out _).mono ?_; rintro e w3 ⟨rfl, b3⟩; obtain ⟨gc3, gf3⟩ := below_get b3; (try simp only [heap_drew, World.size_alloc, World.size_setCell] at gc3 gf3); have s3 := below_via (w := w2) (by go_grown) b3; have H3 := below_via H2 s3; have hs3 := b3.size; (try simp at hs3); have z3_0 : w.heap.size < w3.heap.size := (by omega); clear b3)
      go_wp2_with fail
      go_meet
      exact ⟨by first | rfl | rw [e], (s3.cell (p := ⟨w.heap.size, 3, none⟩) (by omega)).trans k3, H3, by omega⟩
  case rest =>
    obtain ⟨rfl, K3, HB, hz⟩ := hcut
    clear a1 a2 a3 a4 HN1 HN2 HC1 HC2 HC3 k0 k1 k2 k3 hwl hdl hdh
    have k3 := K3.out
    go_wp2
    go_loopg [3, 4] r.ts.length (fun gk o i wr => ∃ k : Nat, gk + k = r.ts.length ∧ o = .string (str (HD ++ testsT (r.ts.take k))) ∧ i = .int .i64 k ∧ Hid (wr.cell? ⟨w.heap.size, 3, none⟩ = some (.slice TA r.ts.length tc)) ∧ Hid (Below w.heap.size w wr) ∧ w.heap.size < wr.heap.size)
    case atStart => exact ⟨0, by omega, by simp [testsT], by rfl, K3, HB, hz⟩
    case round =>
      obtain ⟨k, hk, rfl, rfl, K3, HB, hz⟩ := hrel
      have k3 := K3.out
      have hbs := HB.out.size
      by_cases hlt : k < r.ts.length
      · obtain ⟨gk, rfl⟩ : ∃ m, gk = m + 1 := ⟨gk - 1, by omega⟩
        obtain ⟨b, off, t, rfl, hb, ht, c0, c1, c2, c3⟩ := (HR.out.below HB.out).tst hlt
        have ha := tests_len (take_all_of k HA.out)
        have hok : tstB t = true := by
          have := HA.out
          rw [List.all_eq_true] at this
          exact this t (List.mem_of_getElem? ht)
        have hkk : (r.ts.take k).length ≤ 4 := by rw [List.length_take]; omega
        obtain ⟨hf0, hf1, hm0, hm1, hx0, hx1, hop⟩ := tst_and hok
        have hdf := dec_len (n := t.f) (by omega)
        have hdm := dec_len (n := t.m) (by omega)
        have hdx := dec_len (n := t.x) (by omega)
        have hC1 := decI_c t.f (by omega) (by omega)
        have hC2 := decI_c t.m (by omega) (by omega)
        have hC3 := decI_c t.x (by omega) (by omega)
        have hcat := fun S => @test_cat r.ts k t HD S ht
        have hS0l : (HD ++ testsT (r.ts.take k)).length ≤ 27 + 34 * 4 := by simp; omega
        generalize dec t.f = DF at *
        generalize dec t.m = DM at *
        generalize dec t.x = DX at *
        generalize HD ++ testsT (r.ts.take k) = S0 at *
        obtain ⟨SE, hSEq⟩ : ∃ l, HD ++ testsT (r.ts.take (k + 1)) = l := ⟨_, rfl⟩
        rw [hSEq] at hcat
        have HSQ := Lib.hid hSEq
        clear hSEq
        obtain ⟨S1, hS1⟩ : ∃ l, S0 ++ [32, 97] = l := ⟨_, rfl⟩
        obtain ⟨S2, hS2⟩ : ∃ l, S1 ++ DF = l := ⟨_, rfl⟩
        obtain ⟨S3, hS3⟩ : ∃ l, S2 ++ [38] = l := ⟨_, rfl⟩
        obtain ⟨S4, hS4⟩ : ∃ l, S3 ++ DM = l := ⟨_, rfl⟩
        obtain ⟨S5, hS5⟩ : ∃ l, l = if t.m = 4294967295 then S2 else S4 := ⟨_, rfl⟩
        have hl1 : S1.length = S0.length + 2 := by rw [← hS1]; simp
        have hl2 : S2.length = S1.length + DF.length := by rw [← hS2]; simp
        have hl3 : S3.length = S2.length + 1 := by rw [← hS3]; simp
        have hl4 : S4.length = S3.length + DM.length := by rw [← hS4]; simp
        have hl5 : S5.length ≤ S4.length := by rw [hS5]; split <;> omega
        have hSE : S5 ++ signT t.op ++ DX = SE := hcat S5 (by rw [hS5, ← hS4, ← hS3, ← hS2, ← hS1])
        have a1 : ∀ W, (Op.stringOp .add (str S0) ⟨#[32, 97]⟩).run Tryd.prog W = .ok (.string (str S1)) W := fun W => cat_run (b := [32, 97]) hS1 (by simp; omega) W
        have a2 : ∀ W, (Op.stringOp .add (str S1) (str DF)).run Tryd.prog W = .ok (.string (str S2)) W := fun W => cat_run hS2 (by omega) W
        have a3 : ∀ W, (Op.stringOp .add (str S2) ⟨#[38]⟩).run Tryd.prog W = .ok (.string (str S3)) W := fun W => cat_run (b := [38]) hS3 (by simp; omega) W
        have a4 : ∀ W, (Op.stringOp .add (str S3) (str DM)).run Tryd.prog W = .ok (.string (str S4)) W := fun W => cat_run hS4 (by omega) W
        have hL5 : S5.length ≤ 1000 := by omega
        have HC1 := Lib.hid hC1
        have HC2 := Lib.hid hC2
        have HC3 := Lib.hid hC3
        have H5 := Lib.hid hS5
        have HSE := Lib.hid hSE
        have HOP := Lib.hid hop
        clear hC1 hC2 hC3 hS1 hS2 hS3 hS4 hS5 hSE hl1 hl2 hl3 hl4 hl5 hcat hdf hdm ha hok hkk hS0l hop ht
        go_upto_if 45 with (go_at_call 44; refine (HC1.out _).mono ?_; rintro e w3 ⟨rfl, b3⟩; obtain ⟨gc3, gf3⟩ := below_get b3; (try simp only [heap_drew, World.size_alloc, World.size_setCell] at gc3 gf3); have hb3 := below_on HB.out (by go_grown) b3; have hs3 := b3.size; (try simp at hs3); clear b3)
        go_cut [3, 45] from 46 to 51 (fun v3 v45 wx => v3 = .string (str S5) ∧ Hid (wx.cell? ⟨w.heap.size, 3, none⟩ = some (.slice (some ⟨b, off, none⟩) r.ts.length tc)) ∧ Hid (wx.cell? ⟨wr.heap.size, 2, none⟩ = some (.int .i64 t.op)) ∧ Hid (wx.cell? ⟨wr.heap.size, 3, none⟩ = some (.int .i64 t.x)) ∧ Hid (Below w.heap.size w wx) ∧ wr.heap.size < wx.heap.size)
        case first =>
          have d3 : w3.cell? ⟨w.heap.size, 3, none⟩ = some (.slice (some ⟨b, off, none⟩) r.ts.length tc) := by rw [gc3 _ _ (by omega)]; simp [go_sem, *]
          have d4 : w3.cell? ⟨wr.heap.size, 1, none⟩ = some (.int .i64 t.m) := by rw [gc3 _ _ (by omega)]; simp [go_sem, *]
          have d5 : w3.cell? ⟨wr.heap.size, 2, none⟩ = some (.int .i64 t.op) := by rw [gc3 _ _ (by omega)]; simp [go_sem, *]
          have d6 : w3.cell? ⟨wr.heap.size, 3, none⟩ = some (.int .i64 t.x) := by rw [gc3 _ _ (by omega)]; simp [go_sem, *]
          clear gc3 gf3
          by_cases hm : t.m = 4294967295
          · have e : S5 = S2 := by rw [H5.out, if_pos hm]
            go_wp2_with fail
            go_meet
            exact ⟨by rw [e], d3, d5, d6, hb3, by omega⟩
          · have e : S5 = S4 := by rw [H5.out, if_neg hm]
            have HE := Lib.hid e
            clear e
            (go_wp2_with fail); (go_at_call 44; refine (HC2.out _).mono ?_; rintro e w4 ⟨rfl, b4⟩; obtain ⟨gc4, gf4⟩ := below_get b4; have hb4 := below_via hb3 b4; have hs4 := b4.size; clear b4)
            go_wp2_with fail
            go_meet
            exact ⟨by rw [HE.out], (gc4 _ _ (by omega)).trans d3, (gc4 _ _ (by omega)).trans d5, (gc4 _ _ (by omega)).trans d6, hb4, by omega⟩
        case rest =>
          obtain ⟨rfl, D3, D5, D6, HB5, hz5⟩ := hcut
          clear a1 a2 a3 a4 c0 c1 c2 c3 gc3 gf3 k3
          have d5 := D5.out
          have d6 := D6.out
          have d3 := D3.out
          rcases HOP.out with ho | ho | ho
          all_goals
            rw [ho] at d5
            obtain ⟨G, hG, hGe⟩ : ∃ l, l = signT t.op ∧ l.length ≤ 1 := ⟨_, rfl, sign_len _⟩
            have hse := HSE.out
            rw [← hG] at hse
            have hz6 : wr.heap.size < wc.heap.size + 1 := by omega
            have n1 : ¬ 9223372036854775807 < (str S5).size + 1 := by rw [str_size]; omega
            have n2 : ¬ 9223372036854775807 < (str S5).size + 1 + (str DX).size := by rw [str_size, str_size]; omega
            rw [ho] at hG
            have HZE : Hid (str S5 ++ str G ++ str DX = str SE) := by
              show _ = _
              rw [str_app, str_app, hse]
            rw [hG] at HZE
            clear hse hG hGe hdx hL5
          · go_wp2_with fail
            go_region_law (first
              | (go_simp; (go_at_call 44; refine (HC3.out _).mono ?_; rintro e w6 ⟨rfl, b6⟩; obtain ⟨gc6, gf6⟩ := below_get b6; (try simp only [heap_drew, World.size_alloc, World.size_setCell] at gc6 gf6); have hb6 := below_on HB5.out (by go_grown) b6; have hc6 := below_via (w := wc) (by go_grown) b6; have hs6 := b6.size; (try simp at hs6); have hz7 : wr.heap.size < w6.heap.size := (by omega); clear b6)))
            all_goals
              go_wp2_with fail
              go_roundg gk
              case measure => omega
              case rel =>
                go_light
                exact ⟨k + 1, by omega, by rw [HSQ.out, ← HZE.out]; rfl, by go_num, Lib.hid (cell_keep (w := wc) (by go_grown) d3 (by show w.heap.size < _; omega)), by show Below _ _ _; go_grown, by (try simp); omega⟩
          · go_wp2_with fail
            go_region_law (first
              | (go_simp; (go_at_call 44; refine (HC3.out _).mono ?_; rintro e w6 ⟨rfl, b6⟩; obtain ⟨gc6, gf6⟩ := below_get b6; (try simp only [heap_drew, World.size_alloc, World.size_setCell] at gc6 gf6); have hb6 := below_on HB5.out (by go_grown) b6; have hc6 := below_via (w := wc) (by go_grown) b6; have hs6 := b6.size; (try simp at hs6); have hz7 : wr.heap.size < w6.heap.size := (by omega); clear b6)))
            all_goals
              go_wp2_with fail
              go_roundg gk
              case measure => omega
              case rel =>
                go_light
                exact ⟨k + 1, by omega, by rw [HSQ.out, ← HZE.out]; rfl, by go_num, Lib.hid (cell_keep (w := wc) (by go_grown) d3 (by show w.heap.size < _; omega)), by show Below _ _ _; go_grown, by (try simp); omega⟩
          · go_wp2_with fail
            go_region_law (first
              | (go_simp; (go_at_call 44; refine (HC3.out _).mono ?_; rintro e w6 ⟨rfl, b6⟩; obtain ⟨gc6, gf6⟩ := below_get b6; (try simp only [heap_drew, World.size_alloc, World.size_setCell] at gc6 gf6); have hb6 := below_on HB5.out (by go_grown) b6; have hc6 := below_via (w := wc) (by go_grown) b6; have hs6 := b6.size; (try simp at hs6); have hz7 : wr.heap.size < w6.heap.size := (by omega); clear b6)))
            all_goals
              go_wp2_with fail
              go_roundg gk
              case measure => omega
              case rel =>
                go_light
                exact ⟨k + 1, by omega, by rw [HSQ.out, ← HZE.out]; rfl, by go_num, Lib.hid (cell_keep (w := wc) (by go_grown) d3 (by show w.heap.size < _; omega)), by show Below _ _ _; go_grown, by (try simp); omega⟩
      · have hkn : k = r.ts.length := by omega
        have e : r.ts.take k = r.ts := by rw [hkn]; exact List.take_length
        have a1 : ∀ W, (Op.stringOp .add (str (HD ++ testsT r.ts)) ⟨#[10]⟩).run Tryd.prog W = .ok (.string (str (HD ++ testsT r.ts ++ [10]))) W := fun W => cat_run (b := [10]) rfl HFIN.out W
        rw [e]
        obtain ⟨S, hS⟩ : ∃ l, HD ++ testsT r.ts = l := ⟨_, rfl⟩
        rw [hS] at a1 ⊢
        have HS := Lib.hid hS
        clear e hS
        go_wp2
        go_returns
        go_light
        rw [HLE.out, HS.out]
        exact ⟨rfl, HB.out⟩
end Go.Proofs.YtmfienlceobfeaaDoor
