/- FnPolicyOnly: for all drawn bytes the law returns true: what is not among some numbers gets one verdict, all else what it had. The tables are tied to the program's text. No condition. -/
import Derived.Test.YtljgaepgblakhaaDoorJFnPolicyOnly48
import Derived.Test.YtljgaepgblakhaaDoorJFnPolicyOnly40
namespace Go.Proofs.YtljgaepgblakhaaDoor
set_option linter.unusedSimpArgs false
open Go.ChangeShapes Go.WideShapes Go.ChangeAt Go.RowKit
set_option linter.unusedVariables false
set_option linter.unnecessarySimpa false
set_option maxHeartbeats 8000000 in
set_option maxRecDepth 100000 in
theorem fnPolicyOnly_law (A : Option Addr) (n c : Nat) (xs : List Int) (B : Option Addr) (m d : Nat) (ys : List Int) (w : World) (hr : Rd w w.heap.size 1 A n (u8s xs)) (hx : ∀ x ∈ xs, 0 ≤ x ∧ x ≤ 255) (hc : n ≤ c) (hc2 : c ≤ 9223372036854775807)
    (hq : Rd w w.heap.size 1 B m (u8s ys)) (hy : ∀ x ∈ ys, 0 ≤ x ∧ x ≤ 255) (hd : m ≤ d) (hd2 : d ≤ 9223372036854775807) (hp : PT w w.heap.size) :
    Calls Tryd.prog 4 #[.slice A n c, .slice B m d] w (RetB (.bool true) w) := by
  have HR := Lib.hid hr
  have HX := Lib.hid hx
  have HQ := Lib.hid hq
  have HY := Lib.hid hy
  have HP := Lib.hid hp
  clear hr hx hq hy hp
  by_cases h1 : n ≤ 1048576
  · have k1 : decide (1048576 < (n : Int)) = false := by simp; omega
    by_cases h2 : m ≤ 1048576
    · have k2 : decide (1048576 < (m : Int)) = false := by simp; omega
      go_enter Tryd.func4, Tryd.ntmps4
      (go_wp2_with fail); (go_at_call 19; refine (drawPolicyOnly_c A n c xs _ (HR.out.upB (by go_grown) (by go_size)) HX.out hc hc2).mono ?_; rintro e w1 ⟨PA, pn, pc, qs, pe, low, high, v, rfl, o1, hpn, hl1, b1⟩; have RP := Lib.hid o1.rd; clear o1 hl1; obtain ⟨gc1, gf1⟩ := below_get b1; (try simp only [heap_drew, World.size_alloc, World.size_setCell] at gc1 gf1); have s1 := below_via (w := w) (by go_grown) b1; have H1 := s1; have hs1 := b1.size; (try simp at hs1); clear b1)
      generalize rls qs = rs at *
      have hl1 := RP.out.1
      subst hl1
      obtain ⟨Rs, Re, ok, hfew, hyes, hOS, hOI⟩ := only_y rs pe low high v (by omega)
      have hfl := hfew.1
      have HOS := Lib.hid hOS
      have HOI := Lib.hid hOI
      have HYES := Lib.hid hyes
      clear hOS hOI hyes hfew
      (go_wp2_with fail); (go_at_call 20; refine (HOI.out _ _ _ (RP.out.upB (by go_grown) (by go_size)) ((HP.out.below (show Below w.heap.size w _ from below_via H1 (by go_grown))).more (by (try simp); omega))).mono ?_; rintro e w2 ⟨A2, c2, qs2, rfl, e2, o2, p2, b2⟩; have R2 := Lib.hid (o2.rd); rw [e2] at R2; clear o2 p2 e2; obtain ⟨gc2, gf2⟩ := below_get b2; (try simp only [heap_drew, World.size_alloc, World.size_setCell] at gc2 gf2); have s2 := below_via (w := w1) (by go_grown) b2; have H2 := below_via H1 s2; have hs2 := b2.size; (try simp at hs2); have z2_0 : w1.heap.size < w2.heap.size := (by omega); clear b2)
      (go_wp2_with fail); (go_at_call 21; refine (HOS.out _ _ _ ((RP.out.up s2).upB (by go_grown) (by go_size))).mono ?_; rintro e w3 ⟨A3, c3, qs3, rfl, e3, o3, p3, b3⟩; have R3 := Lib.hid (o3.rd); rw [e3] at R3; clear o3 p3 e3; obtain ⟨gc3, gf3⟩ := below_get b3; (try simp only [heap_drew, World.size_alloc, World.size_setCell] at gc3 gf3); have s3 := below_via (w := w2) (by go_grown) b3; have H3 := below_via H2 s3; have hs3 := b3.size; (try simp at hs3); have z3_0 : w1.heap.size < w3.heap.size := (by omega); have z3_1 : w2.heap.size < w3.heap.size := (by omega); clear b3)
      (go_wp2_with fail); (go_at_call 22; refine (wgPolicy_c A2 A3 c2 c3 Rs Re _ ((R2.out.up s3).upB (by go_grown) (by go_size)) (R3.out.upB (by go_grown) (by go_size)) (by omega)).mono ?_; rintro e w4 ⟨rfl, b4⟩; obtain ⟨gc4, gf4⟩ := below_get b4; (try simp only [heap_drew, World.size_alloc, World.size_setCell] at gc4 gf4); have s4 := below_via (w := w3) (by go_grown) b4; have H4 := below_via H3 s4; have hs4 := b4.size; (try simp at hs4); have z4_0 : w1.heap.size < w4.heap.size := (by omega); have z4_1 : w2.heap.size < w4.heap.size := (by omega); have z4_2 : w3.heap.size < w4.heap.size := (by omega); clear b4)
      cases ok with
      | false =>
        clear HYES
        (go_wp2_with fail); (go_at_call 22; refine (wgPolicy_c A2 A3 c2 c3 Rs Re _ (((R2.out.up s3).up s4).upB (by go_grown) (by go_size)) ((R3.out.up s4).upB (by go_grown) (by go_size)) (by omega)).mono ?_; rintro e w5 ⟨rfl, b5⟩; obtain ⟨gc5, gf5⟩ := below_get b5; (try simp only [heap_drew, World.size_alloc, World.size_setCell] at gc5 gf5); have s5 := below_via (w := w4) (by go_grown) b5; have H5 := below_via H4 s5; have hs5 := b5.size; (try simp at hs5); clear b5)
        go_wp2
        go_returns
        exact ⟨rfl, by go_grown⟩
      | true =>
        obtain ⟨hxk, hpk, hlaw⟩ := HYES.out rfl
        have HLAW := Lib.hid hlaw
        have HXK := Lib.hid hxk
        have h8 := (polOk_all HXK.out).1
        have HTS : Hid (∀ r ∈ Rs, r.ts.length ≤ 10) := Lib.hid (fun r h => by have := polOk_ts HXK.out r h; omega)
        clear HYES hpk hxk hlaw
        (go_wp2_with fail); (go_at_call 23; refine (drawnNear_c B m d ys A2 Rs.length c2 Rs Re _ ((HQ.out.below (show Below w.heap.size w _ from below_via H4 (by go_grown))).more (by (try simp); omega)) HY.out hd hd2 (((R2.out.up s3).up s4).upB (by go_grown) (by go_size)) (by omega) HTS.out).mono ?_; rintro e w5 ⟨num, CA, cc, zs, rfl, rc, hcb, b5⟩; have RC := Lib.hid rc; have HCB := Lib.hid hcb; clear rc hcb; obtain ⟨gc5, gf5⟩ := below_get b5; (try simp only [heap_drew, World.size_alloc, World.size_setCell] at gc5 gf5); have s5 := below_via (w := w4) (by go_grown) b5; have H5 := below_via H4 s5; have hs5 := b5.size; (try simp at hs5); have z5_0 : w1.heap.size < w5.heap.size := (by omega); have z5_1 : w2.heap.size < w5.heap.size := (by omega); have z5_2 : w3.heap.size < w5.heap.size := (by omega); clear b5)
        have hz4 : zs.length = 4 := by have := RC.out.len1; rw [ints_len] at this; exact this
        obtain ⟨ok1, cb1, O1, _, _, eO1, hI1, _, _, _, _⟩ := of_x rs pe num zs (by omega) (by omega)
        obtain ⟨ok3, cb3, O3, _, _, eO3, hI3, _, _, _, _⟩ := of_x Rs Re num zs (by omega) (by omega)
        have hO : O3 = if low ≤ num ∧ num ≤ high then O1 else v := by rw [eO3, eO1]; exact HLAW.out num zs HCB.out
        have HI1 := Lib.hid hI1
        have HI3 := Lib.hid hI3
        rw [hz4] at HI1 HI3
        clear hI1 hI3 eO1 eO3 hz4 HCB HLAW HXK HTS
        by_cases hv : low ≤ num ∧ num ≤ high
        · rw [if_pos hv] at hO
          have hv' : decide (low ≤ num ∧ num ≤ high) = true := by simpa using hv
          have HV := Lib.hid hv'
          clear hv hv'
          subst hO
          (go_wp2_with fail); (go_at_call 24; refine (wgIn_c num low high _).mono ?_; rintro e w6 ⟨rfl, rfl⟩; rw [HV.out])
          (go_wp2_with fail); (go_at_call 15; refine (HI1.out _ _ _ _ _ (((((RP.out.up s2).up s3).up s4).up s5).upB (by go_grown) (by go_size)) (RC.out.upB (by go_grown) (by go_size)) ((HP.out.below (show Below w.heap.size w _ from below_via H5 (by go_grown))).more (by (try simp); omega))).mono ?_; rintro e w6 ⟨rfl, b6⟩; obtain ⟨gc6, gf6⟩ := below_get b6; (try simp only [heap_drew, World.size_alloc, World.size_setCell] at gc6 gf6); have s6 := below_via (w := w5) (by go_grown) b6; have H6 := below_via H5 s6; have hs6 := b6.size; (try simp at hs6); have z6_0 : w1.heap.size < w6.heap.size := (by omega); have z6_1 : w2.heap.size < w6.heap.size := (by omega); have z6_2 : w5.heap.size < w6.heap.size := (by omega); clear b6)
          (go_wp2_with fail); (go_at_call 15; refine (HI3.out _ _ _ _ _ (((((R2.out.up s3).up s4).up s5).up s6).upB (by go_grown) (by go_size)) ((RC.out.up s6).upB (by go_grown) (by go_size)) ((HP.out.below (show Below w.heap.size w _ from below_via H6 (by go_grown))).more (by (try simp); omega))).mono ?_; rintro e w7 ⟨rfl, b7⟩; obtain ⟨gc7, gf7⟩ := below_get b7; (try simp only [heap_drew, World.size_alloc, World.size_setCell] at gc7 gf7); have s7 := below_via (w := w6) (by go_grown) b7; have H7 := below_via H6 s7; have hs7 := b7.size; (try simp at hs7); clear b7)
          go_wp2
          go_returns
          exact ⟨rfl, by go_grown⟩
        · rw [if_neg hv] at hO
          have hv' : decide (low ≤ num ∧ num ≤ high) = false := by simpa using hv
          have HV := Lib.hid hv'
          clear hv hv'
          subst hO
          (go_wp2_with fail); (go_at_call 24; refine (wgIn_c num low high _).mono ?_; rintro e w6 ⟨rfl, rfl⟩; rw [HV.out])
          (go_wp2_with fail); (go_at_call 15; refine (HI3.out _ _ _ _ _ ((((R2.out.up s3).up s4).up s5).upB (by go_grown) (by go_size)) (RC.out.upB (by go_grown) (by go_size)) ((HP.out.below (show Below w.heap.size w _ from below_via H5 (by go_grown))).more (by (try simp); omega))).mono ?_; rintro e w6 ⟨rfl, b6⟩; obtain ⟨gc6, gf6⟩ := below_get b6; (try simp only [heap_drew, World.size_alloc, World.size_setCell] at gc6 gf6); have s6 := below_via (w := w5) (by go_grown) b6; have H6 := below_via H5 s6; have hs6 := b6.size; (try simp at hs6); clear b6)
          go_wp2
          go_returns
          exact ⟨rfl, by go_grown⟩
    · have k2 : decide (1048576 < (m : Int)) = true := by simp; omega
      go_enter Tryd.func4, Tryd.ntmps4
      go_wp2
      go_returns
      exact ⟨rfl, by go_grown⟩
  · have k1 : decide (1048576 < (n : Int)) = true := by simp; omega
    go_enter Tryd.func4, Tryd.ntmps4
    go_wp2
    go_returns
    exact ⟨rfl, by go_grown⟩
theorem fnPolicyOnly_w (v0 v1 : Value) (W : World) (h0 : IsBytes W v0) (h1 : IsBytes W v1) (hK : PT W W.heap.size) : Calls Tryd.prog 4 #[v0, v1] W (RetB (.bool true) W) := by
  obtain ⟨A, n, c, xs, rfl, hr, hn, hcm, hx⟩ := h0
  obtain ⟨B, m, d, ys, rfl, hq, hm, hdm, hy⟩ := h1
  exact fnPolicyOnly_law A n c xs B m d ys W hr hx hn (by unfold maxLen at hcm; omega) hq hy hm (by unfold maxLen at hdm; omega) hK
set_option maxRecDepth 100000 in
theorem fnPolicyOnly_lifted (os : Os) (started : os.Started) (H : Type) (enc : TypeId × Value → H) :
    ReturnsInHanded {} Tryd.checked os 4 .any (fun w args => (Rows.fnPolicyOnlySpec.pre enc Tryd.prog Tryd.f4 [] false w args ∧ laidMetH Tryd.prog Rows.fnPolicyOnlyRow.laid w) ∧ sizedMet enc Tryd.prog Tryd.f4 (OpenSpec.ofChange Rows.fnPolicyOnlySpec) false w args)
      (Rows.fnPolicyOnlySpec.post enc Tryd.prog Tryd.f4 false true false false) := by
  refine returnsInHanded_of_change_and (C := Tryd.checked) (X := fun w _ => laidMetH Tryd.prog Rows.fnPolicyOnlyRow.laid w) (fun _ _ _ hh h => h.of_heap hh) own started (by kernel_rfl) Tryd.func4
    (ChangeSpec.witness_shaped (enc := enc) (C := Tryd.checked) (os := os) (X := fun w _ => laidMetH Tryd.prog Rows.fnPolicyOnlyRow.laid w) false (World.doorLaid Tryd.prog 400 os) #[.slice none 0 0, .slice none 0 0] 8 rfl (World.shaped_of_RefB (by kernel_rfl) (by kernel_rfl)) (by kernel_rfl) (by kernel_rfl) (by kernel_rfl) (laid_met os _)) ?_
  intro W base args ds gs before hval0 hW _ _ hL _
  have hval : ∀ (j : Nat) t v, Tryd.f4.params[j]? = some t → args[j]? = some v → Value.okWide Tryd.prog W .any base t v := hval0
  have hW' := hW
  obtain ⟨p, q, hA0, hV, rfl, hfz, hnd⟩ := hW
  have hA : DataW.TrodAll enc Tryd.prog W 0 (fun _ => true) true Tryd.f4.params.toList args.toList ds p := hA0
  rw [Tryd.params4] at hA hval
  obtain ⟨v0, vs0, d0, ds0, p0, q0, hargs, rfl, rfl, h0, r0⟩ := trodAll_cons hA
  obtain ⟨v1, vs1, d1, ds1, p1, q1, rfl, rfl, rfl, h1, r1⟩ := trodAll_cons r0
  obtain ⟨rfl, rfl, rfl⟩ := trodAll_nil r1
  obtain rfl : args = #[v0, v1] := by cases args; simp_all
  obtain ⟨rfl, rfl⟩ := trodVars_none hV
  have k0 := h0
  have lt0 : ∀ x ∈ p0, x.block < W.heap.size := by obtain ⟨m, hm⟩ := k0; exact DataW.trod_lt m _ _ _ hm
  have o0 := open_Bytes (hval 0 22 v0 rfl rfl) h0
  have k1 := h1
  have lt1 : ∀ x ∈ p1, x.block < W.heap.size := by obtain ⟨m, hm⟩ := k1; exact DataW.trod_lt m _ _ _ hm
  have o1 := open_Bytes (hval 1 22 v1 rfl rfl) h1
  clear hA0 hval0
  refine (fnPolicyOnly_w v0 v1 W o0 o1 (pt_of_laid hL)).mono fun e W' ⟨he, bel⟩ => ?_
  subst he
  exact ⟨_, rfl, _, _, _, [], _, [], hW', trodAll_mk1 (shut_bool Tryd.underlying4 _), (trodAll_cons_mk (Below.trod laidOut (by kernel_rfl) (of_decide_eq_true (by kernel_rfl)) k0 bel lt0) (trodAll_cons_mk (Below.trod laidOut (by kernel_rfl) (of_decide_eq_true (by kernel_rfl)) k1 bel lt1) trodAll_mk0)), rfl, bel.frame _, fun h => by cases h⟩

theorem fnPolicyOnly_holds : Rows.FnPolicyOnlySaid :=
  OpenClaim.holds_of_wide 4 Tryd.f4 rfl rfl rfl rfl rfl rfl rfl ⟨rfl, rfl, rfl, rfl, rfl⟩ rfl rfl rfl rfl rfl (by kernel_rfl) Tryd.func4 (by kernel_rfl)
    (of_decide_eq_true (by kernel_rfl)) (by unfold Func.isWrapper; rw [if_neg (of_decide_eq_false (by kernel_rfl))]; exact ⟨rfl, rfl⟩)
    (fun os started H enc _ => fnPolicyOnly_lifted os started H enc)
theorem fnPolicyOnly_card : Rows.FnPolicyOnlyCardSaid :=
  Claim7.holds_tied_plain_at .later [] [.data, .data, .data] true (true, "e5285b4dfec83ce1191f224f2249e333f59ff691aa3990693bdc3cbb67853b79") false
    fnPolicyOnly_holds (fun _ h => by cases h) (by kernel_rfl) (fun _ h => by cases h) fnPolicyOnly_row_tie rfl ⟨rfl, rfl⟩ (by kernel_rfl) rfl
    (fun f fn hf hfn => by
      obtain rfl : f = 4 := Option.some.inj ((show Tryd.prog.funcNamed "loop.example/gatelodge/laws.FnPolicyOnly" = some 4 by kernel_rfl).symm.trans hf) |>.symm
      obtain rfl : fn = Tryd.f4 := (Option.some.inj (Tryd.func4.symm.trans hfn)).symm
      exact ⟨by kernel_rfl, fun j t ht => by
        rw [Tryd.params4] at ht
        have hm : t ∈ [22, 22] := by simpa using Array.mem_of_getElem? ht
        have hall : ([22, 22].all fun u => !Tryd.prog.wantsStandIn u) = true := by kernel_rfl
        exact (show Tryd.prog.wantsStandIn t = false by simpa using List.all_eq_true.1 hall t hm)⟩)
    (by kernel_rfl)
#print axioms fnPolicyOnly_card
end Go.Proofs.YtljgaepgblakhaaDoor
