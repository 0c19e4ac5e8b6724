/- PolicyTrim: both sides. Conditions: each contract's own. -/
import Derived.Test.YtljgaepgblakhaaDoorJ29b23283a8
import Derived.Test.YtljgaepgblakhaaDoorJe86cfd6d00
import Derived.Test.YtljgaepgblakhaaDoorJ87a0880913
namespace Go.Proofs.YtljgaepgblakhaaDoor
set_option linter.unusedSimpArgs false
open Go.RowKit
set_option linter.unusedVariables false
set_option linter.unnecessarySimpa false
set_option maxRecDepth 20000
theorem own_take {w : World} {base e size n c m : Nat} {A : Option Addr} {xs : List Value} (h : w.ownsRow base e size (.slice A n c) n xs) (hm : m ≤ n) : w.ownsRow base e size (.slice A m c) m (xs.take (m * size)) := by
  refine ⟨by rw [List.length_take, h.1]; exact Nat.min_eq_left (Nat.mul_le_mul_right _ hm), ?_⟩
  rcases h.2 with ⟨hv, h0⟩ | ⟨g, cap, cur, hv, hg, hh, h1, h2, h3, h4⟩
  · injection hv with a b d
    subst a d h0
    obtain rfl : m = 0 := by omega
    exact .inl ⟨rfl, rfl⟩
  · injection hv with a b d
    subst a d
    refine .inr ⟨g, c, cur, rfl, hg, hh, by omega, h2, h3, ?_⟩
    rw [← h4, List.take_take, Nat.min_eq_left (Nat.mul_le_mul_right _ hm)]
theorem OP.ncap {w : World} {lo hi ER ET n c : Nat} {A : Option Addr} {qs : List (Rl × Value)} (h : OP w lo hi ER ET A n c qs) : n ≤ c := by
  rcases h.own.2 with ⟨hv, h0⟩ | ⟨g, cap, cur, hv, _, _, h1, _⟩
  · omega
  · injection hv with a b d
    omega
theorem rcells_take (qs : List (Rl × Value)) (m : Nat) : rcells (qs.take m) = (rcells qs).take (m * 4) := by
  induction qs generalizing m with
  | nil => simp [rcells]
  | cons q qs ih =>
    cases m with
    | zero => simp [rcells]
    | succ m =>
      have h4 : (qcells q).length = 4 := rfl
      have e1 : rcells (q :: qs) = qcells q ++ rcells qs := by simp [rcells]
      have e2 : rcells ((q :: qs).take (m + 1)) = qcells q ++ rcells (qs.take m) := by simp [rcells]
      rw [e1, e2, ih, show (m + 1) * 4 = (qcells q).length + m * 4 from by omega, List.take_length_add_append]
theorem OP.take {w : World} {lo hi ER ET n c m : Nat} {A : Option Addr} {qs : List (Rl × Value)} (h : OP w lo hi ER ET A n c qs) (hm : m ≤ n) : OP w lo hi ER ET A m c (qs.take m) :=
  ⟨by rw [rcells_take]; exact own_take h.own hm, fun g e => h.high g (by cases A with | none => cases e | some a => exact e), fun q hq => h.tst q (List.mem_of_mem_take hq)⟩
theorem rls_take (qs : List (Rl × Value)) (m : Nat) : rls (qs.take m) = (rls qs).take m := by simp [rls, List.map_take]
theorem cut_stop {rs : List Rl} {e : Int} {k : Nat} {r : Rl} (h : rs[k]? = some r) (hv : ¬ r.v = e) : cutN rs e (k + 1) = k + 1 := by
  rw [cutN, h, if_neg (by simp [hv])]
theorem cut_on {rs : List Rl} {e : Int} {k : Nat} {r : Rl} (h : rs[k]? = some r) (hv : r.v = e) : cutN rs e (k + 1) = cutN rs e k := by
  rw [cutN, h, if_pos (by simp [hv])]
/-- Rules, cut behind those that stay, are what trimming leaves. -/
theorem trimmed {rs : List Rl} {e : Int} {qs : List (Rl × Value)} {n m : Nat} (hk : rls qs = keepR rs) (hl : qs.length = n) (hc : cutN (rls qs) e n = m) (hm : m ≤ n) : rls (qs.take m) = trimQ rs e ∧ (trimQ rs e).length = m := by
  have e1 : (keepR rs).length = n := by rw [← hk, rls_len]; exact hl
  have e2 : trimQ rs e = (keepR rs).take m := by unfold trimQ; rw [e1, ← hk, hc]
  refine ⟨by rw [rls_take, hk, e2], ?_⟩
  rw [e2, List.length_take, e1]
  omega
theorem policyTrim_no (A : Option Addr) (n c : Nat) (rs : List Rl) (e : Int) (w : World) (hn : n ≤ 9223372036854775807) (hr : RdR w w.heap.size A n rs) (hp : PT w w.heap.size) (h1 : polOk ⟨rs, e⟩ = false) :
    Calls Tryd.prog 37 #[.agg #[.slice A n c, .int .i64 e]] w (RetPol 35 83 ⟨[], 0⟩ w) := by
  have HR := Lib.hid hr
  have HP := Lib.hid hp
  have hO1 := fun W h h' => policyOk_c A n c rs e W h hn h'
  rw [h1] at hO1
  have HO1 := Lib.hid hO1
  clear hr hp hO1 h1
  go_enter Tryd.func37, Tryd.ntmps37
  (go_wp2_with fail); (go_at_call 17; refine (HO1.out _ (HR.out.upB (by go_grown) (by go_size)) ((HP.out.below (by go_grown)).more (by simp; omega))).mono ?_; rintro e w1 ⟨rfl, b1⟩; obtain ⟨gc1, gf1⟩ := below_get b1; (try simp only [heap_drew, World.size_alloc, World.size_setCell] at gc1 gf1); have s1 := below_via (w := w) (by go_grown) b1; have H1 := s1; have hs1 := b1.size; (try simp at hs1); have z1_0 : w.heap.size < w1.heap.size := (by omega); have z1_1 : w.heap.size + 1 < w1.heap.size := (by omega); clear b1)
  go_wp2
  refine bodyPost_ret (v := .agg #[.slice none 0 0, .int .i64 0]) (by simp [results, Tryd.results37, go_sem, gc1, z1_1]) rfl ?_
  go_light
  exact ⟨none, 0, [], rfl, rfl, OP.nil_ _ _ _ _ _, Apart.nil_, by go_grown⟩
set_option maxHeartbeats 4000000 in
set_option maxRecDepth 100000 in
theorem policyTrim_yes (A : Option Addr) (n c : Nat) (rs : List Rl) (e : Int) (w : World) (hn : n ≤ 9223372036854775807) (hr : RdR w w.heap.size A n rs) (hp : PT w w.heap.size) (h1 : polOk ⟨rs, e⟩ = true) :
    Calls Tryd.prog 37 #[.agg #[.slice A n c, .int .i64 e]] w (RetPol 35 83 ⟨trimQ rs e, e⟩ w) := by
  have hl1 := hr.1
  subst hl1
  have HR := Lib.hid hr
  have HP := Lib.hid hp
  have hA8 := (polOk_rules h1).1
  have hO1 := fun W h h' => policyOk_c A rs.length c rs e W h hn h'
  rw [h1] at hO1
  have HO1 := Lib.hid hO1
  have HC1 := Lib.hid (fun W h => copyRules_c A rs.length c rs W h (by omega) (fun r hr => by have := polOk_ts h1 r hr; omega))
  have HX := Lib.hid (polOk_sub (trim_sub rs e) h1)
  have hB2 := blk_two w 25 25 [.slice A rs.length c, .int .i64 e] [.slice none 0 0, .int .i64 0]
  have HBa := Lib.hid hB2.1
  have HBb := Lib.hid hB2.2
  clear hr hp hO1 h1 hB2
  go_enter Tryd.func37, Tryd.ntmps37
  (go_wp2_with fail); (go_at_call 17; refine (HO1.out _ (HR.out.upB (by go_grown) (by go_size)) ((HP.out.below (by go_grown)).more (by simp; omega))).mono ?_; rintro e w1 ⟨rfl, b1⟩; have PB1 := Lib.hid (HBa.out.up b1); have QB1 := Lib.hid (HBb.out.up b1); obtain ⟨gc1, gf1⟩ := below_get b1; (try simp only [heap_drew, World.size_alloc, World.size_setCell] at gc1 gf1); have s1 := below_via (w := w) (by go_grown) b1; have H1 := s1; have hs1 := b1.size; (try simp at hs1); have z1_0 : w.heap.size < w1.heap.size := (by omega); have z1_1 : w.heap.size + 1 < w1.heap.size := (by omega); clear b1)
  (go_wp2_with fail); (go_at_call 76; refine (HC1.out _ ((HR.out.below (show Below w.heap.size w _ from below_via H1 (by go_grown))).more (by (try simp); omega))).mono ?_; rintro e w2 ⟨A2, c2, qs2, rfl, e2, o2, p2, b2⟩; have O2 := Lib.hid o2; have E2 := Lib.hid e2; have P2 := Lib.hid p2; clear o2 e2 p2; obtain ⟨gc2, gf2⟩ := below_get b2; (try simp only [heap_drew, World.size_alloc, World.size_setCell] at gc2 gf2); have s2 := below_via (w := w1) (by go_grown) b2; have H2 := below_via H1 s2; have hs2 := b2.size; (try simp at hs2); have z2_0 : w.heap.size < w2.heap.size := (by omega); have z2_1 : w.heap.size + 1 < w2.heap.size := (by omega); clear b2)
  (go_wp2_with fail); (go_at_call 86; refine (keepU_c A2 rs.length c2 qs2 w1.heap.size _ O2.out (by omega) (by omega)).mono ?_; rintro e w3 ⟨A3, n3, c3, qs3, rfl, hsub, hke, o3, b3⟩; have O3 := Lib.hid o3; have SB := Lib.hid hsub; have KE : Hid (rls qs3 = keepR rs) := Lib.hid (by rw [hke, E2.out]); clear o3 hsub hke; obtain ⟨gc3, gf3⟩ := below_get b3; (try simp only [heap_drew, World.size_alloc, World.size_setCell] at gc3 gf3); have s3 := below_via (w := w2) (by go_grown) b3; have H3 := below_via H2 s3; have hs3 := b3.size; (try simp at hs3); have z3_0 : w.heap.size < w3.heap.size := (by omega); have z3_1 : w.heap.size + 1 < w3.heap.size := (by omega); clear b3)
  have PB3 := Lib.hid ((PB1.out.up s2).up s3)
  have QB3 := Lib.hid ((QB1.out.up s2).up s3)
  have hl3 := O3.out.len
  have HL3 := Lib.hid hl3
  have hcap := O3.out.cap
  have hnc := O3.out.ncap
  have hn3 : n3 ≤ rs.length := by have h := SB.out.length_le; have h2 := O2.out.len; omega
  unfold maxLen at hcap
  have H3' := Lib.hid H3
  clear hl3 gc1 gc2 gc3 gf1 gf2 gf3 s1 s2 s3 H1 H2 HBa HBb PB1 QB1
  go_wp2_with fail
  go_loopg [3] n3 (fun gk v wr => v = .slice A3 gk c3 ∧ gk ≤ n3 ∧ Hid (cutN (rls qs3) e n3 = cutN (rls qs3) e gk) ∧ Hid (Below w3.heap.size w3 wr))
  case atStart => exact ⟨rfl, Nat.le_refl _, Lib.hid rfl, Lib.hid (Below.refl _ _)⟩
  case round =>
    obtain ⟨rfl, hgn, HCU, HF⟩ := hrel
    have hbs := HF.out.size
    have k0 := (PB3.out.below HF.out z3_0).cell (i := 1) rfl
    by_cases hk : gk = 0
    · subst hk
      have HN : Hid (cutN (rls qs3) e n3 = 0) := Lib.hid (by rw [HCU.out]; rfl)
      have hg0 : decide ((0 : Int) < ((0 : Nat) : Int)) = false := by simp
      have HTR := Lib.hid (trimmed KE.out HL3.out HN.out (by omega))
      have HOK := Lib.hid (fun W h h' => okPolicy_c A3 0 c3 (trimQ rs e) e W (by omega) h h' true HX.out)
      simp only [if_true] at HOK
      go_wp2
      go_quiet (fail)
      obtain ⟨wd, hwd⟩ : ∃ W, W = wr.drewN nq := ⟨_, rfl⟩
      have FD : Hid (Below w3.heap.size w3 wd) := Lib.hid (hwd ▸ below_drewN HF.out nq)
      rw [← hwd]
      clear hwd HF k0
      have hbd := FD.out.size
      have k0 := (PB3.out.below FD.out z3_0).cell (i := 1) rfl
      have HOT := Lib.hid ((O3.out.up FD.out).take (m := 0) (by omega))
      have HRD := Lib.hid (OP.rdX HOT.out HTR.out.1)
      have HPW : Hid (PT wd wd.heap.size) := Lib.hid ((HP.out.below (show Below w.heap.size w _ from below_via H3'.out FD.out)).more (by omega))
      have BW := Lib.hid (below_via H3'.out FD.out)
      go_wp2_with fail
      go_at_call 75
      refine (HOK.out _ ((HRD.out.below (by go_grown)).more (by (try simp) <;> omega)) ((HPW.out.below (by go_grown)).more (by (try simp) <;> omega))).mono ?_
      rintro _ w5 ⟨rfl, b5⟩
      have Q5 := Lib.hid ((QB3.out.below FD.out z3_1).up b5)
      have r0 := Q5.out.cell (i := 0) rfl
      have r1 := Q5.out.cell (i := 1) rfl
      have rf := Q5.out.free
      have hs5 := b5.size
      (try simp at hs5)
      have OF := Lib.hid ((HOT.out.up (show Below wd.heap.size wd _ from by go_grown)).up b5)
      have B5 := Lib.hid (below_on BW.out (show Below wd.heap.size wd _ from by go_grown) b5)
      have zz5 : w.heap.size + 1 < w5.heap.size := by omega
      have zz6 : w.heap.size + 1 ≠ w5.heap.size := by omega
      go_wp2
      refine bodyPost_ret (v := .agg #[.slice A3 0 c3, .int .i64 e]) (by simp [results, Tryd.results37, go_sem, r0, r1, rf, zz5, zz6]) rfl ?_
      go_light
      refine ⟨A3, c3, qs3.take (0), by rw [HTR.out.2], HTR.out.1, ?_, Apart.sub (Apart.sub P2.out SB.out) (List.take_sublist _ _), by have := B5.out; go_grown⟩
      show OP _ _ _ _ _ _ (trimQ rs e).length _ _
      rw [HTR.out.2]
      refine OP.wide (lo := w1.heap.size) (hi := w3.heap.size) ?_ (by omega) (by (try simp) <;> omega)
      repeat (first | exact OF.out | refine OP.set_ ?_ (.inl (by omega)) _ | refine OP.set_ ?_ (.inr (by omega)) _ | refine OP.up ?_ (Below.alloc (Below.refl _ _) (Nat.le_refl _) _))
    · obtain ⟨gk, rfl⟩ : ∃ m, gk = m + 1 := ⟨gk - 1, by omega⟩
      obtain ⟨g, q, TA, tc, rfl, hg1, hg2, hg3, hq, hqv, c0, _⟩ := (O3.out.up HF.out).at_ (show gk < n3 by omega)
      have HQ := Lib.hid (rls_at hq)
      have f1 : (0 : Int) ≤ ((gk + 1 : Nat) : Int) - 1 := by omega
      have f2 : ((gk + 1 : Nat) : Int) - 1 < ((gk + 1 : Nat) : Int) := by omega
      clear hq hqv
      by_cases hv : q.1.v = e
      · have HN : Hid (cutN (rls qs3) e n3 = cutN (rls qs3) e gk) := Lib.hid (by rw [HCU.out, cut_on HQ.out hv])
        rw [hv] at c0
        clear hv
        have hg0 : decide ((0 : Int) < ((gk + 1 : Nat) : Int)) = true := by simp
        go_wp2
        go_quiet (fail)
        go_wp2
        go_roundg gk
        case measure => omega
        case rel =>
          go_light
          exact ⟨by simp, by omega, HN, Lib.hid (below_drewN HF.out nq)⟩
      · have HN : Hid (cutN (rls qs3) e n3 = gk + 1) := Lib.hid (by rw [HCU.out, cut_stop HQ.out hv])
        have hv' : ((q.1.v : Int) == e) = false := by simpa using hv
        clear hv
        have hg0 : decide ((0 : Int) < ((gk + 1 : Nat) : Int)) = true := by simp
        have HTR := Lib.hid (trimmed KE.out HL3.out HN.out (by omega))
        have HOK := Lib.hid (fun W h h' => okPolicy_c (some ⟨g, 0, none⟩) (gk + 1) c3 (trimQ rs e) e W (by omega) h h' true HX.out)
        simp only [if_true] at HOK
        go_wp2
        go_quiet (fail)
        obtain ⟨wd, hwd⟩ : ∃ W, W = wr.drewN nq := ⟨_, rfl⟩
        have FD : Hid (Below w3.heap.size w3 wd) := Lib.hid (hwd ▸ below_drewN HF.out nq)
        rw [← hwd]
        clear hwd HF k0 c0
        have hbd := FD.out.size
        have k0 := (PB3.out.below FD.out z3_0).cell (i := 1) rfl
        have HOT := Lib.hid ((O3.out.up FD.out).take (m := (gk + 1)) (by omega))
        have HRD := Lib.hid (OP.rdX HOT.out HTR.out.1)
        have HPW : Hid (PT wd wd.heap.size) := Lib.hid ((HP.out.below (show Below w.heap.size w _ from below_via H3'.out FD.out)).more (by omega))
        have BW := Lib.hid (below_via H3'.out FD.out)
        go_wp2_with fail
        go_at_call 75
        refine (HOK.out _ ((HRD.out.below (by go_grown)).more (by (try simp) <;> omega)) ((HPW.out.below (by go_grown)).more (by (try simp) <;> omega))).mono ?_
        rintro _ w5 ⟨rfl, b5⟩
        have Q5 := Lib.hid ((QB3.out.below FD.out z3_1).up b5)
        have r0 := Q5.out.cell (i := 0) rfl
        have r1 := Q5.out.cell (i := 1) rfl
        have rf := Q5.out.free
        have hs5 := b5.size
        (try simp at hs5)
        have OF := Lib.hid ((HOT.out.up (show Below wd.heap.size wd _ from by go_grown)).up b5)
        have B5 := Lib.hid (below_on BW.out (show Below wd.heap.size wd _ from by go_grown) b5)
        have zz5 : w.heap.size + 1 < w5.heap.size := by omega
        have zz6 : w.heap.size + 1 ≠ w5.heap.size := by omega
        go_wp2
        refine bodyPost_ret (v := .agg #[.slice (some ⟨g, 0, none⟩) (gk + 1) c3, .int .i64 e]) (by simp [results, Tryd.results37, go_sem, r0, r1, rf, zz5, zz6]) rfl ?_
        go_light
        refine ⟨(some ⟨g, 0, none⟩), c3, qs3.take ((gk + 1)), by rw [HTR.out.2], HTR.out.1, ?_, Apart.sub (Apart.sub P2.out SB.out) (List.take_sublist _ _), by have := B5.out; go_grown⟩
        show OP _ _ _ _ _ _ (trimQ rs e).length _ _
        rw [HTR.out.2]
        refine OP.wide (lo := w1.heap.size) (hi := w3.heap.size) ?_ (by omega) (by (try simp) <;> omega)
        repeat (first | exact OF.out | refine OP.set_ ?_ (.inl (by omega)) _ | refine OP.set_ ?_ (.inr (by omega)) _ | refine OP.up ?_ (Below.alloc (Below.refl _ _) (Nat.le_refl _) _))
theorem policyTrim_c (A : Option Addr) (n c : Nat) (rs : List Rl) (e : Int) (w : World) (hn : n ≤ 9223372036854775807) (hr : RdR w w.heap.size A n rs) (hp : PT w w.heap.size) :
    Calls Tryd.prog 37 #[.agg #[.slice A n c, .int .i64 e]] w (RetPol 35 83 (trimP ⟨rs, e⟩) w) := by
  unfold trimP
  by_cases h : polOk ⟨rs, e⟩ = true
  · rw [if_pos h]
    exact policyTrim_yes A n c rs e w hn hr hp h
  · rw [if_neg h]
    exact policyTrim_no A n c rs e w hn hr hp (by simpa using h)
end Go.Proofs.YtljgaepgblakhaaDoor
