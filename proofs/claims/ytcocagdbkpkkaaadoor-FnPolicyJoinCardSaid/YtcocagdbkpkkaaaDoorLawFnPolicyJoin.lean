/- FnPolicyJoin: for all drawn bytes the law returns true: who is asked first is heard first. The tables are tied to the program's text. No condition. -/
import Derived.Test.YtcocagdbkpkkaaaDoorFnPol
import Derived.Test.YtcocagdbkpkkaaaDoorWgPol
import Derived.Test.YtcocagdbkpkkaaaDoorPolMid
namespace Go.Proofs.YtcocagdbkpkkaaaDoor
set_option linter.unusedSimpArgs false
open Go.ChangeShapes Go.WideShapes Go.ChangeAt Go.RowKit
set_option linter.unusedVariables false
set_option linter.unnecessarySimpa false
theorem join_y (rs : List Rl) (e : Int) (rs' : List Rl) (e' : Int) (hn : rs.length ≤ 9223372036854775807) (hm : rs'.length ≤ 9223372036854775807) : ∃ (Rs : List Rl) (Re : Int) (ok : Bool),
    (ok = true → Rs = rs ++ rs' ∧ Re = e' ∧ polOk ⟨rs, e⟩ = true ∧ polOk ⟨rs', e'⟩ = true ∧ polOk ⟨rs ++ rs', e'⟩ = true) ∧ Few Rs ∧
    (∀ A c B d W, RdR W W.heap.size A rs.length rs → RdR W W.heap.size B rs'.length rs' → Calls Tryd.prog 28 #[.agg #[.slice A rs.length c, .int .i64 e], .agg #[.slice B rs'.length d, .int .i64 e']] W (RetPB 58 67 Rs Re ok W)) ∧
    (∀ A c B d W, RdR W W.heap.size A rs.length rs → RdR W W.heap.size B rs'.length rs' → PT W W.heap.size → Calls Tryd.prog 29 #[.agg #[.slice A rs.length c, .int .i64 e], .agg #[.slice B rs'.length d, .int .i64 e']] W (RetPB 58 67 Rs Re ok W)) := by
  refine ⟨(joinP ⟨rs, e⟩ ⟨rs', e'⟩).rs, (joinP ⟨rs, e⟩ ⟨rs', e'⟩).els, joinB ⟨rs, e⟩ ⟨rs', e'⟩, fun h => ?_, few_join _ _,
    fun A c B d W h1 h2 => specPolicyJoin_c A _ c rs e B _ d rs' e' W hn hm h1 h2,
    fun A c B d W h1 h2 h3 => policyJoin_c A _ c rs e B _ d rs' e' W hn hm h1 h2 h3⟩
  simp only [joinB, Bool.and_eq_true] at h
  have : joinP ⟨rs, e⟩ ⟨rs', e'⟩ = ⟨rs ++ rs', e'⟩ := by
    unfold joinP okP
    simp only [h.1.1, h.1.2, Bool.and_self, if_true]
    rw [if_pos h.2]
  rw [this]
  exact ⟨rfl, rfl, h.1.1, h.1.2, h.2⟩
set_option maxHeartbeats 8000000 in
set_option maxRecDepth 100000 in
theorem fnPolicyJoin_law (A : Option Addr) (n c : Nat) (xs : List Int) (B : Option Addr) (m d : Nat) (ys : List Int) (w : World) (hr : Rd w w.heap.size 1 A n (u8s xs)) (hx : ∀ x ∈ xs, 0 ≤ x ∧ x ≤ 255) (hc : n ≤ c) (hc2 : c ≤ 9223372036854775807)
    (hq : Rd w w.heap.size 1 B m (u8s ys)) (hy : ∀ x ∈ ys, 0 ≤ x ∧ x ≤ 255) (hd : m ≤ d) (hd2 : d ≤ 9223372036854775807) (hp : PT w w.heap.size) :
    Calls Tryd.prog 13 #[.slice A n c, .slice B m d] w (RetB (.bool true) w) := by
  have HR := Lib.hid hr
  have HX := Lib.hid hx
  have HQ := Lib.hid hq
  have HY := Lib.hid hy
  have HP := Lib.hid hp
  clear hr hx hq hy hp
  by_cases h1 : n ≤ 1048576
  · have k1 : decide (1048576 < (n : Int)) = false := by simp; omega
    by_cases h2 : m ≤ 1048576
    · have k2 : decide (1048576 < (m : Int)) = false := by simp; omega
      go_enter Tryd.func13, Tryd.ntmps13
      (go_wp2_with fail); (go_at_call 39; refine (drawJoin_c A n c xs _ (HR.out.upB (by go_grown) (by go_size)) HX.out hc hc2).mono ?_; rintro e w1 ⟨PA, pn, pc, qs, pe, QA, qn, qc, qs2, qe, rfl, o1, hpn, hl1, o2, hqn, hl2, b1⟩; have RP := Lib.hid o1.rd; have RQ := Lib.hid o2.rd; clear o1 o2 hl1 hl2; obtain ⟨gc1, gf1⟩ := below_get b1; (try simp only [heap_drew, World.size_alloc, World.size_setCell] at gc1 gf1); have s1 := below_via (w := w) (by go_grown) b1; have H1 := s1; have hs1 := b1.size; (try simp at hs1); clear b1)
      generalize rls qs = rs at *
      generalize rls qs2 = rs2 at *
      have hl1 := RP.out.1
      subst hl1
      have hl2 := RQ.out.1
      subst hl2
      obtain ⟨Rs, Re, ok, hok, hfew, hJS, hJI⟩ := join_y rs pe rs2 qe (by omega) (by omega)
      have HOK := Lib.hid hok
      have HJS := Lib.hid hJS
      have HJI := Lib.hid hJI
      have hfl := hfew.1
      clear hok hJS hJI hfew
      (go_wp2_with fail); (go_at_call 29; refine (HJI.out _ _ _ _ _ (RP.out.upB (by go_grown) (by go_size)) (RQ.out.upB (by go_grown) (by go_size)) ((HP.out.below (show Below w.heap.size w _ from below_via H1 (by go_grown))).more (by (try simp); omega))).mono ?_; rintro e w2 ⟨A2, c2, qs3, rfl, e2, o2, p2, b2⟩; have R2 := Lib.hid (o2.rd); rw [e2] at R2; clear o2 p2 e2; obtain ⟨gc2, gf2⟩ := below_get b2; (try simp only [heap_drew, World.size_alloc, World.size_setCell] at gc2 gf2); have s2 := below_via (w := w1) (by go_grown) b2; have H2 := below_via H1 s2; have hs2 := b2.size; (try simp at hs2); have z2_0 : w1.heap.size < w2.heap.size := (by omega); have z2_1 : w1.heap.size + 1 < w2.heap.size := (by omega); clear b2)
      (go_wp2_with fail); (go_at_call 28; refine (HJS.out _ _ _ _ _ ((RP.out.up s2).upB (by go_grown) (by go_size)) ((RQ.out.up s2).upB (by go_grown) (by go_size))).mono ?_; rintro e w3 ⟨A3, c3, qs4, rfl, e3, o3, p3, b3⟩; have R3 := Lib.hid (o3.rd); rw [e3] at R3; clear o3 p3 e3; obtain ⟨gc3, gf3⟩ := below_get b3; (try simp only [heap_drew, World.size_alloc, World.size_setCell] at gc3 gf3); have s3 := below_via (w := w2) (by go_grown) b3; have H3 := below_via H2 s3; have hs3 := b3.size; (try simp at hs3); have z3_0 : w1.heap.size < w3.heap.size := (by omega); have z3_1 : w1.heap.size + 1 < w3.heap.size := (by omega); have z3_2 : w2.heap.size < w3.heap.size := (by omega); clear b3)
      (go_wp2_with fail); (go_at_call 40; refine (wgPolicy_c A2 A3 c2 c3 Rs Re _ ((R2.out.up s3).upB (by go_grown) (by go_size)) (R3.out.upB (by go_grown) (by go_size)) (by omega)).mono ?_; rintro e w4 ⟨rfl, b4⟩; obtain ⟨gc4, gf4⟩ := below_get b4; (try simp only [heap_drew, World.size_alloc, World.size_setCell] at gc4 gf4); have s4 := below_via (w := w3) (by go_grown) b4; have H4 := below_via H3 s4; have hs4 := b4.size; (try simp at hs4); have z4_0 : w1.heap.size < w4.heap.size := (by omega); have z4_1 : w1.heap.size + 1 < w4.heap.size := (by omega); have z4_2 : w2.heap.size < w4.heap.size := (by omega); have z4_3 : w3.heap.size < w4.heap.size := (by omega); clear b4)
      cases ok with
      | false =>
        clear HOK
        (go_wp2_with fail); (go_at_call 40; refine (wgPolicy_c A2 A3 c2 c3 Rs Re _ (((R2.out.up s3).up s4).upB (by go_grown) (by go_size)) ((R3.out.up s4).upB (by go_grown) (by go_size)) (by omega)).mono ?_; rintro e w5 ⟨rfl, b5⟩; obtain ⟨gc5, gf5⟩ := below_get b5; (try simp only [heap_drew, World.size_alloc, World.size_setCell] at gc5 gf5); have s5 := below_via (w := w4) (by go_grown) b5; have H5 := below_via H4 s5; have hs5 := b5.size; (try simp at hs5); clear b5)
        go_wp2
        go_returns
        exact ⟨rfl, by go_grown⟩
      | true =>
        obtain ⟨hRs, hRe, hk1, hk2, hk3⟩ := HOK.out rfl
        have HK1 := Lib.hid hk1
        have HK2 := Lib.hid hk2
        have HK3 : Hid (polOk ⟨Rs, Re⟩ = true) := Lib.hid (by rw [hRs, hRe]; exact hk3)
        have HRS := Lib.hid hRs
        have HRE := Lib.hid hRe
        have h8 := (polOk_all HK3.out).1
        have HTS : Hid (∀ r ∈ Rs, r.ts.length ≤ 10) := Lib.hid (fun r h => by have := polOk_ts HK3.out r h; omega)
        clear HOK hRs hRe hk1 hk2 hk3
        (go_wp2_with fail); (go_at_call 41; refine (drawnNear_c B m d ys A2 Rs.length c2 Rs Re _ ((HQ.out.below (show Below w.heap.size w _ from below_via H4 (by go_grown))).more (by (try simp); omega)) HY.out hd hd2 (((R2.out.up s3).up s4).upB (by go_grown) (by go_size)) (by omega) HTS.out).mono ?_; rintro e w5 ⟨num, CA, cc, zs, rfl, rc, hcb, b5⟩; have RC := Lib.hid rc; have HCB := Lib.hid hcb; clear rc hcb; obtain ⟨gc5, gf5⟩ := below_get b5; (try simp only [heap_drew, World.size_alloc, World.size_setCell] at gc5 gf5); have s5 := below_via (w := w4) (by go_grown) b5; have H5 := below_via H4 s5; have hs5 := b5.size; (try simp at hs5); have z5_0 : w1.heap.size < w5.heap.size := (by omega); have z5_1 : w1.heap.size + 1 < w5.heap.size := (by omega); have z5_2 : w2.heap.size < w5.heap.size := (by omega); clear b5)
        have hz4 : zs.length = 4 := by have := RC.out.len1; rw [ints_len] at this; exact this
        obtain ⟨ok1, cb1, O1, eok1, _, eO1, hI1, _, hKI1, _, _⟩ := of_x rs pe num zs (by omega) (by omega)
        obtain ⟨ok2, cb2, O2, _, _, eO2, hI2, _, _, _, _⟩ := of_x rs2 qe num zs (by omega) (by omega)
        obtain ⟨ok3, cb3, O3, eok3, _, eO3, hI3, _, hKI3, _, _⟩ := of_x Rs Re num zs (by omega) (by omega)
        obtain ⟨F, eF, hFI, _⟩ := fit_x rs pe num zs (by omega) (by omega)
        have hlaw : O3 = if 0 < F then O1 else O2 := by
          rw [eO3, eF, eO1, eO2]
          have hj := join_law (p := ⟨rs, pe⟩) (q := ⟨rs2, qe⟩) (num := num) (xs := zs) HK1.out HK2.out (by have := HK3.out; rw [HRS.out, HRE.out] at this; exact this)
          rw [HRS.out, HRE.out]
          exact hj
        have hk3 : ok3 = true := eok3.trans HK3.out
        subst hk3
        have HI1 := Lib.hid hI1
        have HI2 := Lib.hid hI2
        have HI3 := Lib.hid hI3
        have HK := Lib.hid hKI3
        have HF := Lib.hid hFI
        rw [hz4] at HI1 HI2 HI3 HF
        clear hI1 hI2 hI3 hKI3 hFI eok1 eO1 eO2 eok3 eO3 eF hKI1 HK1 HK2 HK3 HRS HRE hz4 HCB
        by_cases hF : 0 < F
        · rw [if_pos hF] at hlaw
          subst hlaw
          (go_wp2_with fail); (go_at_call 24; refine (HI2.out _ _ _ _ _ (((((RQ.out.up s2).up s3).up s4).up s5).upB (by go_grown) (by go_size)) (RC.out.upB (by go_grown) (by go_size)) ((HP.out.below (show Below w.heap.size w _ from below_via H5 (by go_grown))).more (by (try simp); omega))).mono ?_; rintro e w6 ⟨rfl, b6⟩; obtain ⟨gc6, gf6⟩ := below_get b6; (try simp only [heap_drew, World.size_alloc, World.size_setCell] at gc6 gf6); have s6 := below_via (w := w5) (by go_grown) b6; have H6 := below_via H5 s6; have hs6 := b6.size; (try simp at hs6); have z6_0 : w1.heap.size < w6.heap.size := (by omega); have z6_1 : w1.heap.size + 1 < w6.heap.size := (by omega); have z6_2 : w2.heap.size < w6.heap.size := (by omega); have z6_3 : w5.heap.size < w6.heap.size := (by omega); clear b6)
          (go_wp2_with fail); (go_at_call 27; refine (HF.out _ _ _ _ _ ((((((RP.out.up s2).up s3).up s4).up s5).up s6).upB (by go_grown) (by go_size)) ((RC.out.up s6).upB (by go_grown) (by go_size)) ((HP.out.below (show Below w.heap.size w _ from below_via H6 (by go_grown))).more (by (try simp); omega))).mono ?_; rintro e w7 ⟨rfl, b7⟩; obtain ⟨gc7, gf7⟩ := below_get b7; (try simp only [heap_drew, World.size_alloc, World.size_setCell] at gc7 gf7); have s7 := below_via (w := w6) (by go_grown) b7; have H7 := below_via H6 s7; have hs7 := b7.size; (try simp at hs7); have z7_0 : w1.heap.size < w7.heap.size := (by omega); have z7_1 : w1.heap.size + 1 < w7.heap.size := (by omega); have z7_2 : w2.heap.size < w7.heap.size := (by omega); have z7_3 : w5.heap.size < w7.heap.size := (by omega); clear b7)
          (go_wp2_with fail); (go_at_call 24; refine (HI1.out _ _ _ _ _ (((((((RP.out.up s2).up s3).up s4).up s5).up s6).up s7).upB (by go_grown) (by go_size)) (((RC.out.up s6).up s7).upB (by go_grown) (by go_size)) ((HP.out.below (show Below w.heap.size w _ from below_via H7 (by go_grown))).more (by (try simp); omega))).mono ?_; rintro e w8 ⟨rfl, b8⟩; obtain ⟨gc8, gf8⟩ := below_get b8; (try simp only [heap_drew, World.size_alloc, World.size_setCell] at gc8 gf8); have s8 := below_via (w := w7) (by go_grown) b8; have H8 := below_via H7 s8; have hs8 := b8.size; (try simp at hs8); have z8_0 : w1.heap.size < w8.heap.size := (by omega); have z8_1 : w1.heap.size + 1 < w8.heap.size := (by omega); have z8_2 : w2.heap.size < w8.heap.size := (by omega); have z8_3 : w5.heap.size < w8.heap.size := (by omega); clear b8)
          (go_wp2_with fail); (go_at_call 24; refine (HI3.out _ _ _ _ _ (((((((R2.out.up s3).up s4).up s5).up s6).up s7).up s8).upB (by go_grown) (by go_size)) ((((RC.out.up s6).up s7).up s8).upB (by go_grown) (by go_size)) ((HP.out.below (show Below w.heap.size w _ from below_via H8 (by go_grown))).more (by (try simp); omega))).mono ?_; rintro e w9 ⟨rfl, b9⟩; obtain ⟨gc9, gf9⟩ := below_get b9; (try simp only [heap_drew, World.size_alloc, World.size_setCell] at gc9 gf9); have s9 := below_via (w := w8) (by go_grown) b9; have H9 := below_via H8 s9; have hs9 := b9.size; (try simp at hs9); have z9_0 : w1.heap.size < w9.heap.size := (by omega); have z9_1 : w1.heap.size + 1 < w9.heap.size := (by omega); have z9_2 : w2.heap.size < w9.heap.size := (by omega); have z9_3 : w5.heap.size < w9.heap.size := (by omega); clear b9)
          (go_wp2_with fail); (go_at_call 17; refine (HK.out _ _ _ ((((((((R2.out.up s3).up s4).up s5).up s6).up s7).up s8).up s9).upB (by go_grown) (by go_size)) ((HP.out.below (show Below w.heap.size w _ from below_via H9 (by go_grown))).more (by (try simp); omega))).mono ?_; rintro e w10 ⟨rfl, b10⟩; obtain ⟨gc10, gf10⟩ := below_get b10; (try simp only [heap_drew, World.size_alloc, World.size_setCell] at gc10 gf10); have s10 := below_via (w := w9) (by go_grown) b10; have H10 := below_via H9 s10; have hs10 := b10.size; (try simp at hs10); clear b10)
          go_wp2
          go_returns
          exact ⟨rfl, by go_grown⟩
        · rw [if_neg hF] at hlaw
          subst hlaw
          (go_wp2_with fail); (go_at_call 24; refine (HI2.out _ _ _ _ _ (((((RQ.out.up s2).up s3).up s4).up s5).upB (by go_grown) (by go_size)) (RC.out.upB (by go_grown) (by go_size)) ((HP.out.below (show Below w.heap.size w _ from below_via H5 (by go_grown))).more (by (try simp); omega))).mono ?_; rintro e w6 ⟨rfl, b6⟩; obtain ⟨gc6, gf6⟩ := below_get b6; (try simp only [heap_drew, World.size_alloc, World.size_setCell] at gc6 gf6); have s6 := below_via (w := w5) (by go_grown) b6; have H6 := below_via H5 s6; have hs6 := b6.size; (try simp at hs6); have z6_0 : w1.heap.size < w6.heap.size := (by omega); have z6_1 : w1.heap.size + 1 < w6.heap.size := (by omega); have z6_2 : w2.heap.size < w6.heap.size := (by omega); have z6_3 : w5.heap.size < w6.heap.size := (by omega); clear b6)
          (go_wp2_with fail); (go_at_call 27; refine (HF.out _ _ _ _ _ ((((((RP.out.up s2).up s3).up s4).up s5).up s6).upB (by go_grown) (by go_size)) ((RC.out.up s6).upB (by go_grown) (by go_size)) ((HP.out.below (show Below w.heap.size w _ from below_via H6 (by go_grown))).more (by (try simp); omega))).mono ?_; rintro e w7 ⟨rfl, b7⟩; obtain ⟨gc7, gf7⟩ := below_get b7; (try simp only [heap_drew, World.size_alloc, World.size_setCell] at gc7 gf7); have s7 := below_via (w := w6) (by go_grown) b7; have H7 := below_via H6 s7; have hs7 := b7.size; (try simp at hs7); have z7_0 : w1.heap.size < w7.heap.size := (by omega); have z7_1 : w1.heap.size + 1 < w7.heap.size := (by omega); have z7_2 : w2.heap.size < w7.heap.size := (by omega); have z7_3 : w5.heap.size < w7.heap.size := (by omega); clear b7)
          (go_wp2_with fail); (go_at_call 24; refine (HI3.out _ _ _ _ _ ((((((R2.out.up s3).up s4).up s5).up s6).up s7).upB (by go_grown) (by go_size)) (((RC.out.up s6).up s7).upB (by go_grown) (by go_size)) ((HP.out.below (show Below w.heap.size w _ from below_via H7 (by go_grown))).more (by (try simp); omega))).mono ?_; rintro e w8 ⟨rfl, b8⟩; obtain ⟨gc8, gf8⟩ := below_get b8; (try simp only [heap_drew, World.size_alloc, World.size_setCell] at gc8 gf8); have s8 := below_via (w := w7) (by go_grown) b8; have H8 := below_via H7 s8; have hs8 := b8.size; (try simp at hs8); have z8_0 : w1.heap.size < w8.heap.size := (by omega); have z8_1 : w1.heap.size + 1 < w8.heap.size := (by omega); have z8_2 : w2.heap.size < w8.heap.size := (by omega); have z8_3 : w5.heap.size < w8.heap.size := (by omega); clear b8)
          (go_wp2_with fail); (go_at_call 17; refine (HK.out _ _ _ (((((((R2.out.up s3).up s4).up s5).up s6).up s7).up s8).upB (by go_grown) (by go_size)) ((HP.out.below (show Below w.heap.size w _ from below_via H8 (by go_grown))).more (by (try simp); omega))).mono ?_; rintro e w9 ⟨rfl, b9⟩; obtain ⟨gc9, gf9⟩ := below_get b9; (try simp only [heap_drew, World.size_alloc, World.size_setCell] at gc9 gf9); have s9 := below_via (w := w8) (by go_grown) b9; have H9 := below_via H8 s9; have hs9 := b9.size; (try simp at hs9); clear b9)
          go_wp2
          go_returns
          exact ⟨rfl, by go_grown⟩
    · have k2 : decide (1048576 < (m : Int)) = true := by simp; omega
      go_enter Tryd.func13, Tryd.ntmps13
      go_wp2
      go_returns
      exact ⟨rfl, by go_grown⟩
  · have k1 : decide (1048576 < (n : Int)) = true := by simp; omega
    go_enter Tryd.func13, Tryd.ntmps13
    go_wp2
    go_returns
    exact ⟨rfl, by go_grown⟩
theorem fnPolicyJoin_w (v0 v1 : Value) (W : World) (h0 : IsBytes W v0) (h1 : IsBytes W v1) (hK : PT W W.heap.size) : Calls Tryd.prog 13 #[v0, v1] W (RetB (.bool true) W) := by
  obtain ⟨A, n, c, xs, rfl, hr, hn, hcm, hx⟩ := h0
  obtain ⟨B, m, d, ys, rfl, hq, hm, hdm, hy⟩ := h1
  exact fnPolicyJoin_law A n c xs B m d ys W hr hx hn (by unfold maxLen at hcm; omega) hq hy hm (by unfold maxLen at hdm; omega) hK
set_option maxRecDepth 100000 in
theorem fnPolicyJoin_lifted (os : Os) (started : os.Started) (H : Type) (enc : TypeId × Value → H) :
    ReturnsInHanded {} Tryd.checked os 13 .any (fun w args => (Rows.fnPolicyJoinSpec.pre enc Tryd.prog Tryd.f13 [] false w args ∧ laidMetH Tryd.prog Rows.fnPolicyJoinRow.laid w) ∧ sizedMet enc Tryd.prog Tryd.f13 (OpenSpec.ofChange Rows.fnPolicyJoinSpec) false w args)
      (Rows.fnPolicyJoinSpec.post enc Tryd.prog Tryd.f13 false true false false) := by
  refine returnsInHanded_of_change_and (C := Tryd.checked) (X := fun w _ => laidMetH Tryd.prog Rows.fnPolicyJoinRow.laid w) (fun _ _ _ hh h => h.of_heap hh) own started (by kernel_rfl) Tryd.func13
    (ChangeSpec.witness_shaped (enc := enc) (C := Tryd.checked) (os := os) (X := fun w _ => laidMetH Tryd.prog Rows.fnPolicyJoinRow.laid w) false (World.doorLaid Tryd.prog 400 os) #[.slice none 0 0, .slice none 0 0] 8 rfl (World.shaped_of_RefB (by kernel_rfl) (by kernel_rfl)) (by kernel_rfl) (by kernel_rfl) (by kernel_rfl) (laid_met os _)) ?_
  intro W base args ds gs before hval0 hW _ _ hL _
  have hval : ∀ (j : Nat) t v, Tryd.f13.params[j]? = some t → args[j]? = some v → Value.okWide Tryd.prog W .any base t v := hval0
  have hW' := hW
  obtain ⟨p, q, hA0, hV, rfl, hfz, hnd⟩ := hW
  have hA : DataW.TrodAll enc Tryd.prog W 0 (fun _ => true) true Tryd.f13.params.toList args.toList ds p := hA0
  rw [Tryd.params13] at hA hval
  obtain ⟨v0, vs0, d0, ds0, p0, q0, hargs, rfl, rfl, h0, r0⟩ := trodAll_cons hA
  obtain ⟨v1, vs1, d1, ds1, p1, q1, rfl, rfl, rfl, h1, r1⟩ := trodAll_cons r0
  obtain ⟨rfl, rfl, rfl⟩ := trodAll_nil r1
  obtain rfl : args = #[v0, v1] := by cases args; simp_all
  obtain ⟨rfl, rfl⟩ := trodVars_none hV
  have k0 := h0
  have lt0 : ∀ x ∈ p0, x.block < W.heap.size := by obtain ⟨m, hm⟩ := k0; exact DataW.trod_lt m _ _ _ hm
  have o0 := open_Bytes (hval 0 51 v0 rfl rfl) h0
  have k1 := h1
  have lt1 : ∀ x ∈ p1, x.block < W.heap.size := by obtain ⟨m, hm⟩ := k1; exact DataW.trod_lt m _ _ _ hm
  have o1 := open_Bytes (hval 1 51 v1 rfl rfl) h1
  clear hA0 hval0
  refine (fnPolicyJoin_w v0 v1 W o0 o1 (pt_of_laid hL)).mono fun e W' ⟨he, bel⟩ => ?_
  subst he
  exact ⟨_, rfl, _, _, _, [], _, [], hW', trodAll_mk1 (shut_bool Tryd.underlying4 _), (trodAll_cons_mk (Below.trod laidOut (by kernel_rfl) (of_decide_eq_true (by kernel_rfl)) k0 bel lt0) (trodAll_cons_mk (Below.trod laidOut (by kernel_rfl) (of_decide_eq_true (by kernel_rfl)) k1 bel lt1) trodAll_mk0)), rfl, bel.frame _, fun h => by cases h⟩

theorem fnPolicyJoin_holds : Rows.FnPolicyJoinSaid :=
  OpenClaim.holds_of_wide 13 Tryd.f13 rfl rfl rfl rfl rfl rfl rfl ⟨rfl, rfl, rfl, rfl, rfl⟩ rfl rfl rfl rfl rfl (by kernel_rfl) Tryd.func13 (by kernel_rfl)
    (of_decide_eq_true (by kernel_rfl)) (by unfold Func.isWrapper; rw [if_neg (of_decide_eq_false (by kernel_rfl))]; exact ⟨rfl, rfl⟩)
    (fun os started H enc _ => fnPolicyJoin_lifted os started H enc)
theorem fnPolicyJoin_card : Rows.FnPolicyJoinCardSaid :=
  Claim7.holds_tied_plain_at .later [] [.data, .data, .data] true (true, "1bec60d0faf7977a9d47a45710736ecb076b1668f732cd746a3417471cc71ec6") false
    fnPolicyJoin_holds (fun _ h => by cases h) (by kernel_rfl) (fun _ h => by cases h) fnPolicyJoin_row_tie rfl ⟨rfl, rfl⟩ (by kernel_rfl) rfl
    (fun f fn hf hfn => by
      obtain rfl : f = 13 := Option.some.inj ((show Tryd.prog.funcNamed "loop.example/gatelodge/laws.FnPolicyJoin" = some 13 by kernel_rfl).symm.trans hf) |>.symm
      obtain rfl : fn = Tryd.f13 := (Option.some.inj (Tryd.func13.symm.trans hfn)).symm
      exact ⟨by kernel_rfl, fun j t ht => by
        rw [Tryd.params13] at ht
        have hm : t ∈ [51, 51] := by simpa using Array.mem_of_getElem? ht
        have hall : ([51, 51].all fun u => !Tryd.prog.wantsStandIn u) = true := by kernel_rfl
        exact (show Tryd.prog.wantsStandIn t = false by simpa using List.all_eq_true.1 hall t hm)⟩)
    (by kernel_rfl)
#print axioms fnPolicyJoin_card
end Go.Proofs.YtcocagdbkpkkaaaDoor
