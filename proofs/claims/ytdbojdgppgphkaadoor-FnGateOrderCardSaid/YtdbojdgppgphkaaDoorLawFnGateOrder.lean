/- FnGateOrder: for all drawn bytes the law returns true: an order is for one pack alone. The tables are tied to the program's text. No condition. -/
import Derived.Test.YtdbojdgppgphkaaDoorGateTied
import Derived.Test.YtdbojdgppgphkaaDoorDrawGate
import Derived.Test.YtdbojdgppgphkaaDoorOrderPlain
namespace Go.Proofs.YtdbojdgppgphkaaDoor
set_option linter.unusedSimpArgs false
open Go.ChangeShapes Go.WideShapes Go.ChangeAt Go.RowKit
set_option linter.unusedVariables false
/-- What an order is, and what other orders are beside it, in letters. -/
theorem order_x (k t : ByteArray) (x : Int) (h0 : -1 ≤ x) (h1 : x ≤ 7) (hk : k.size ≤ 3) (ht : t.size ≤ 6) : ∃ X X2 X3 X4 S1 S2 M1 M2 H : ByteArray,
    X = orderB k x t ∧ X2 = orderB k x (t ++ ⟨#[120]⟩) ∧ X3 = orderB (k ++ ⟨#[120]⟩) x t ∧ X4 = orderB k (x + 1) t ∧ S1 = sumB t ∧ S2 = sumB (t ++ ⟨#[120]⟩) ∧ H = headB x t ∧ M1 = macB k H ∧ M2 = macB (k ++ ⟨#[120]⟩) H ∧
    X ≠ X4 ∧ (S1 = S2 ∨ X ≠ X2) ∧ (M1 = M2 ∨ X ≠ X3) ∧ X.size = H.size + 65 ∧ 70 ≤ H.size ∧ H.size ≤ 101 ∧ X.extract 0 H.size = H := by
  refine ⟨_, _, _, _, _, _, _, _, _, rfl, rfl, rfl, rfl, rfl, rfl, rfl, rfl, rfl, order_num h0 h1, ?_, ?_, order_size k t x, head_pos t x, headB_size (by omega) (by omega) t, order_cut k t x⟩
  · by_cases h : sumB t = sumB (t ++ ⟨#[120]⟩)
    · exact .inl h
    · exact .inr (order_sum h)
  · by_cases h : macB k (headB x t) = macB (k ++ ⟨#[120]⟩) (headB x t)
    · exact .inl h
    · exact .inr (order_tag h)
theorem specHashSum_s (s : ByteArray) (hs : s.size ≤ 1099511627776) (w : World) : Calls Tryd.prog 16 #[.string s] w (RetB (.string (sumB s)) w) := by
  unfold sumB
  exact specHashSum_c s hs w
theorem specHashMac_s (k s : ByteArray) (hk : k.size ≤ 1099511627776) (hs : s.size ≤ 1099511627000) (w : World) : Calls Tryd.prog 17 #[.string k, .string s] w (RetB (.string (macB k s)) w) := by
  unfold macB
  exact specHashMac_c k s hk hs w
set_option maxHeartbeats 6400000 in
theorem fnGateOrder_w (v0 : Value) (w : World) (h0 : IsBytes w v0) (hG : GT w) : Calls Tryd.prog 4 #[v0] w (RetB (.bool true) w) := by
  obtain ⟨A, n, c, xs, rfl, hr, hnc, hc, hx⟩ := h0
  unfold maxLen at hc
  obtain ⟨hP, hK, hz⟩ := hG
  have HK := Lib.hid hK
  have HP := Lib.hid hP
  clear hK hP
  by_cases hbig : n ≤ 1048576
  · have k1 : decide (1048576 < (n : Int)) = false := by simp; omega
    have HD := Lib.hid (drawGateOrder_c A n c xs w hr hx hnc (by omega))
    clear hr hx
    go_enter Tryd.func4, Tryd.ntmps4
    go_wp2_with fail
    refine HD.out.mono ?_
    rintro e w1 ⟨k, x, t, rfl, hk, hx0, hx1, ht, b1⟩
    have H1 := b1
    have hs1 := b1.size
    clear b1 HD
    have z1 : (⟨#[120]⟩ : ByteArray).size = 1 := rfl
    have k2 : (k ++ ⟨#[120]⟩).size = k.size + 1 := by rw [ByteArray.size_append, z1]
    have t2 : (t ++ ⟨#[120]⟩).size = t.size + 1 := by rw [ByteArray.size_append, z1]
    have RK := add_run (P := Tryd.prog) k ⟨#[120]⟩ (by omega)
    have RT := add_run (P := Tryd.prog) t ⟨#[120]⟩ (by omega)
    have hH := headB_size (n := x) (by omega) (by omega) t
    have G1 := Lib.hid (gateOrder_c k x t (by omega) (by omega) (by omega) (by omega))
    have G2 := Lib.hid (gateOrder_c k x (t ++ ⟨#[120]⟩) (by omega) (by omega) (by omega) (by omega))
    have G3 := Lib.hid (gateOrder_c (k ++ ⟨#[120]⟩) x t (by omega) (by omega) (by omega) (by omega))
    have G4 := Lib.hid (gateOrder_c k (x + 1) t (by omega) (by omega) (by omega) (by omega))
    have Q1 := Lib.hid (specGateOrder_c k x t (by omega) (by omega) (by omega) (by omega))
    have Q2 := Lib.hid (specHashSum_s t (by omega))
    have Q3 := Lib.hid (specHashSum_s (t ++ ⟨#[120]⟩) (by omega))
    have Q4 := Lib.hid (specHashMac_s k (headB x t) (by omega) (by omega))
    have Q5 := Lib.hid (specHashMac_s (k ++ ⟨#[120]⟩) (headB x t) (by omega) (by omega))
    obtain ⟨X, X2, X3, X4, S1, S2, M1, M2, H, eX, eX2, eX3, eX4, eS1, eS2, eH, eM1, eM2, f1, f2, f3, f4, f5, f6, f7⟩ := order_x k t x hx0 hx1 hk ht
    rw [← eH] at Q4 Q5
    rw [← eX] at G1 Q1
    rw [← eX2] at G2
    rw [← eX3] at G3
    rw [← eX4] at G4
    rw [← eS1] at Q2
    rw [← eS2] at Q3
    rw [← eM1] at Q4
    rw [← eM2] at Q5
    clear eX eX2 eX3 eX4 eS1 eS2 eH eM1 eM2 k2 t2 hH z1 hk ht
    generalize k ++ ⟨#[120]⟩ = k3 at *
    generalize t ++ ⟨#[120]⟩ = t3 at *
    have F1 := Lib.hid f1
    have F2 := Lib.hid f2
    have F3 := Lib.hid f3
    have hwx : IntKind.i64.wrap (x + 1) = x + 1 := IntWalk.i64_in _ (by omega)
    clear f1 f2 f3
    have l1 : ((X.size : Nat) : Int) = (H.size : Int) + 65 := by omega
    have l2 : X.size - 65 = H.size := by omega
    have f7' : X.extract 0 (X.size - 65) = H := by rw [l2]; exact f7
    have f8 : X.extract 0 ((X.size : Int) - 65).toNat = H := by rw [show ((X.size : Int) - 65).toNat = H.size from by omega]; exact f7
    have l3 : 66 ≤ (X.size : Int) := by omega
    have l4 : (X.size : Int) ≤ 166 := by omega
    clear f7 l1 l2 f4 f5 f6
    have e4 := str_ne F1.out
    (go_wp2_with fail); (go_at_call 14; refine (G1.out _ ((HP.out.below (show Below w.heap.size w _ from below_via H1 (by go_grown))).more (by (try simp); omega)) (HK.out.up H1 hz) (by omega)).mono ?_; rintro e w2 ⟨rfl, b2⟩; obtain ⟨gc2, gf2⟩ := below_get b2; (try simp only [heap_drew, World.size_alloc, World.size_setCell] at gc2 gf2); have s2 := below_via (w := w1) (by go_grown) b2; have H2 := below_via H1 s2; have hs2 := b2.size; (try simp at hs2); clear b2)
    (go_wp2_with fail); (go_at_call 13; refine (Q1.out _).mono ?_; rintro e w3 ⟨rfl, b3⟩; obtain ⟨gc3, gf3⟩ := below_get b3; (try simp only [heap_drew, World.size_alloc, World.size_setCell] at gc3 gf3); have s3 := below_via (w := w2) (by go_grown) b3; have H3 := below_via H2 s3; have hs3 := b3.size; (try simp at hs3); clear b3)
    (go_wp2_with fail); (go_at_call 16; refine (Q2.out _).mono ?_; rintro e w4 ⟨rfl, b4⟩; obtain ⟨gc4, gf4⟩ := below_get b4; (try simp only [heap_drew, World.size_alloc, World.size_setCell] at gc4 gf4); have s4 := below_via (w := w3) (by go_grown) b4; have H4 := below_via H3 s4; have hs4 := b4.size; (try simp at hs4); clear b4)
    (go_wp2_with fail); (go_at_call 16; refine (Q3.out _).mono ?_; rintro e w5 ⟨rfl, b5⟩; obtain ⟨gc5, gf5⟩ := below_get b5; (try simp only [heap_drew, World.size_alloc, World.size_setCell] at gc5 gf5); have s5 := below_via (w := w4) (by go_grown) b5; have H5 := below_via H4 s5; have hs5 := b5.size; (try simp at hs5); clear b5)
    (go_wp2_with fail); (go_at_call 17; refine (Q4.out _).mono ?_; rintro e w6 ⟨rfl, b6⟩; obtain ⟨gc6, gf6⟩ := below_get b6; (try simp only [heap_drew, World.size_alloc, World.size_setCell] at gc6 gf6); have s6 := below_via (w := w5) (by go_grown) b6; have H6 := below_via H5 s6; have hs6 := b6.size; (try simp at hs6); clear b6)
    (go_wp2_with fail); (go_at_call 17; refine (Q5.out _).mono ?_; rintro e w7 ⟨rfl, b7⟩; obtain ⟨gc7, gf7⟩ := below_get b7; (try simp only [heap_drew, World.size_alloc, World.size_setCell] at gc7 gf7); have s7 := below_via (w := w6) (by go_grown) b7; have H7 := below_via H6 s7; have hs7 := b7.size; (try simp at hs7); clear b7)
    by_cases s1 : S1 = S2
    · subst s1
      by_cases s2 : M1 = M2
      · subst s2
        (go_wp2_with fail); (go_at_call 14; refine (G4.out _ ((HP.out.below (show Below w.heap.size w _ from below_via H7 (by go_grown))).more (by (try simp); omega)) (HK.out.up H7 hz) (by omega)).mono ?_; rintro e w8 ⟨rfl, b8⟩; obtain ⟨gc8, gf8⟩ := below_get b8; (try simp only [heap_drew, World.size_alloc, World.size_setCell] at gc8 gf8); have s8 := below_via (w := w7) (by go_grown) b8; have H8 := below_via H7 s8; have hs8 := b8.size; (try simp at hs8); clear b8)
        go_wp2
        go_returns
        exact ⟨rfl, by go_grown⟩
      · have e2 := str_ne s2
        have e3 := str_ne (F3.out.resolve_left s2)
        clear s2
        (go_wp2_with fail); (go_at_call 14; refine (G4.out _ ((HP.out.below (show Below w.heap.size w _ from below_via H7 (by go_grown))).more (by (try simp); omega)) (HK.out.up H7 hz) (by omega)).mono ?_; rintro e w8 ⟨rfl, b8⟩; obtain ⟨gc8, gf8⟩ := below_get b8; (try simp only [heap_drew, World.size_alloc, World.size_setCell] at gc8 gf8); have s8 := below_via (w := w7) (by go_grown) b8; have H8 := below_via H7 s8; have hs8 := b8.size; (try simp at hs8); clear b8)
        (go_wp2_with fail); (go_at_call 14; refine (G3.out _ ((HP.out.below (show Below w.heap.size w _ from below_via H8 (by go_grown))).more (by (try simp); omega)) (HK.out.up H8 hz) (by omega)).mono ?_; rintro e w9 ⟨rfl, b9⟩; obtain ⟨gc9, gf9⟩ := below_get b9; (try simp only [heap_drew, World.size_alloc, World.size_setCell] at gc9 gf9); have s9 := below_via (w := w8) (by go_grown) b9; have H9 := below_via H8 s9; have hs9 := b9.size; (try simp at hs9); clear b9)
        go_wp2
        go_returns
        exact ⟨rfl, by go_grown⟩
    · have e1 := str_ne s1
      have e5 := str_ne (F2.out.resolve_left s1)
      clear s1
      by_cases s2 : M1 = M2
      · subst s2
        (go_wp2_with fail); (go_at_call 14; refine (G4.out _ ((HP.out.below (show Below w.heap.size w _ from below_via H7 (by go_grown))).more (by (try simp); omega)) (HK.out.up H7 hz) (by omega)).mono ?_; rintro e w8 ⟨rfl, b8⟩; obtain ⟨gc8, gf8⟩ := below_get b8; (try simp only [heap_drew, World.size_alloc, World.size_setCell] at gc8 gf8); have s8 := below_via (w := w7) (by go_grown) b8; have H8 := below_via H7 s8; have hs8 := b8.size; (try simp at hs8); clear b8)
        (go_wp2_with fail); (go_at_call 14; refine (G2.out _ ((HP.out.below (show Below w.heap.size w _ from below_via H8 (by go_grown))).more (by (try simp); omega)) (HK.out.up H8 hz) (by omega)).mono ?_; rintro e w9 ⟨rfl, b9⟩; obtain ⟨gc9, gf9⟩ := below_get b9; (try simp only [heap_drew, World.size_alloc, World.size_setCell] at gc9 gf9); have s9 := below_via (w := w8) (by go_grown) b9; have H9 := below_via H8 s9; have hs9 := b9.size; (try simp at hs9); clear b9)
        go_wp2
        go_returns
        exact ⟨rfl, by go_grown⟩
      · have e2 := str_ne s2
        have e3 := str_ne (F3.out.resolve_left s2)
        clear s2
        (go_wp2_with fail); (go_at_call 14; refine (G4.out _ ((HP.out.below (show Below w.heap.size w _ from below_via H7 (by go_grown))).more (by (try simp); omega)) (HK.out.up H7 hz) (by omega)).mono ?_; rintro e w8 ⟨rfl, b8⟩; obtain ⟨gc8, gf8⟩ := below_get b8; (try simp only [heap_drew, World.size_alloc, World.size_setCell] at gc8 gf8); have s8 := below_via (w := w7) (by go_grown) b8; have H8 := below_via H7 s8; have hs8 := b8.size; (try simp at hs8); clear b8)
        (go_wp2_with fail); (go_at_call 14; refine (G2.out _ ((HP.out.below (show Below w.heap.size w _ from below_via H8 (by go_grown))).more (by (try simp); omega)) (HK.out.up H8 hz) (by omega)).mono ?_; rintro e w9 ⟨rfl, b9⟩; obtain ⟨gc9, gf9⟩ := below_get b9; (try simp only [heap_drew, World.size_alloc, World.size_setCell] at gc9 gf9); have s9 := below_via (w := w8) (by go_grown) b9; have H9 := below_via H8 s9; have hs9 := b9.size; (try simp at hs9); clear b9)
        (go_wp2_with fail); (go_at_call 14; refine (G3.out _ ((HP.out.below (show Below w.heap.size w _ from below_via H9 (by go_grown))).more (by (try simp); omega)) (HK.out.up H9 hz) (by omega)).mono ?_; rintro e w10 ⟨rfl, b10⟩; obtain ⟨gc10, gf10⟩ := below_get b10; (try simp only [heap_drew, World.size_alloc, World.size_setCell] at gc10 gf10); have s10 := below_via (w := w9) (by go_grown) b10; have H10 := below_via H9 s10; have hs10 := b10.size; (try simp at hs10); clear b10)
        go_wp2
        go_returns
        exact ⟨rfl, by go_grown⟩
  · clear hr hx
    have k1 : decide (1048576 < (n : Int)) = true := by simp; omega
    go_enter Tryd.func4, Tryd.ntmps4
    go_wp2
    go_returns
    exact ⟨rfl, by go_grown⟩
theorem fnGateOrder_met (os : Os) (args : Array Value) : laidMetH Tryd.prog Rows.fnGateOrderRow.laid ((World.doorLaid Tryd.prog 400 os).forCall (fun _ _ => 0) ⟨#[], args, []⟩).memory :=
  laidMetH_of_parts3 (fuel := 8) (laidMet_of_run' 8 (by kernel_rfl) (by kernel_rfl)) (by kernel_rfl) (by kernel_rfl)
set_option maxRecDepth 100000 in
theorem fnGateOrder_lifted (os : Os) (started : os.Started) (H : Type) (enc : TypeId × Value → H) :
    ReturnsInHanded {} Tryd.checked os 4 .any (fun w args => (Rows.fnGateOrderSpec.pre enc Tryd.prog Tryd.f4 [] false w args ∧ laidMetH Tryd.prog Rows.fnGateOrderRow.laid w) ∧ sizedMet enc Tryd.prog Tryd.f4 (OpenSpec.ofChange Rows.fnGateOrderSpec) false w args)
      (Rows.fnGateOrderSpec.post enc Tryd.prog Tryd.f4 false true false false) := by
  refine returnsInHanded_of_change_and (C := Tryd.checked) (X := fun w _ => laidMetH Tryd.prog Rows.fnGateOrderRow.laid w) (fun _ _ _ hh h => h.of_heap hh) own started (by kernel_rfl) Tryd.func4
    (ChangeSpec.witness_shaped (enc := enc) (C := Tryd.checked) (os := os) (X := fun w _ => laidMetH Tryd.prog Rows.fnGateOrderRow.laid w) false (World.doorLaid Tryd.prog 400 os) #[.slice none 0 0] 8 rfl (World.shaped_of_RefB (by kernel_rfl) (by kernel_rfl)) (by kernel_rfl) (by kernel_rfl) (by kernel_rfl) (fnGateOrder_met os _)) ?_
  intro W base args ds gs before hval0 hW _ _ hL _
  have hval : ∀ (j : Nat) t v, Tryd.f4.params[j]? = some t → args[j]? = some v → Value.okWide Tryd.prog W .any base t v := hval0
  have hW' := hW
  obtain ⟨p, q, hA0, hV, rfl, hfz, hnd⟩ := hW
  have hA : DataW.TrodAll enc Tryd.prog W 0 (fun _ => true) true Tryd.f4.params.toList args.toList ds p := hA0
  rw [Tryd.params4] at hA hval
  obtain ⟨v0, vs0, d0, ds0, p0, q0, hargs, rfl, rfl, h0, r0⟩ := trodAll_cons hA
  obtain ⟨rfl, rfl, rfl⟩ := trodAll_nil r0
  obtain rfl : args = #[v0] := by cases args; simp_all
  have hV2 := hV
  obtain ⟨gv, tv, cv, fv, dv, pv, rfl, _, _, _, _, rfl⟩ := trodVars_one hV2
  have k0 := h0
  have lt0 : ∀ x ∈ p0, x.block < W.heap.size := by obtain ⟨m, hm⟩ := k0; exact DataW.trod_lt m _ _ _ hm
  have o0 := open_Bytes (hval 0 24 v0 rfl rfl) h0
  clear hA0 hval0
  refine (fnGateOrder_w v0 W o0 (kt_of_laid hL)).mono fun e W' ⟨he, bel⟩ => ?_
  subst he
  exact ⟨_, rfl, _, _, _, [], _, _, hW', trodAll_mk1 (shut_bool Tryd.underlying4 _), (trodAll_cons_mk (Below.trod laidOut (by kernel_rfl) (of_decide_eq_true (by kernel_rfl)) k0 bel lt0) trodAll_mk0), Below.trodVars laidOut bel (by kernel_rfl) hV, bel.frame _, fun h => by cases h⟩

theorem fnGateOrder_holds : Rows.FnGateOrderSaid :=
  OpenClaim.holds_of_wide 4 Tryd.f4 rfl rfl rfl rfl rfl rfl rfl ⟨rfl, rfl, rfl, rfl, rfl⟩ rfl rfl rfl rfl rfl (by kernel_rfl) Tryd.func4 (by kernel_rfl)
    (of_decide_eq_true (by kernel_rfl)) (by unfold Func.isWrapper; rw [if_neg (of_decide_eq_false (by kernel_rfl))]; exact ⟨rfl, rfl⟩)
    (fun os started H enc _ => fnGateOrder_lifted os started H enc)
theorem fnGateOrder_card : Rows.FnGateOrderCardSaid :=
  Claim7.holds_tied_plain_at .later [] [.data, .data, .data, .data] true (true, "b121fac4b65e6596d7006fcc74cc60828f861e55e109e0c6baaf5907fcd27632") true
    fnGateOrder_holds (fun _ h => by cases h) (by kernel_rfl) (fun _ h => by cases h) fnGateOrder_row_tie rfl ⟨rfl, rfl⟩ (by kernel_rfl) rfl
    (fun f fn hf hfn => by
      obtain rfl : f = 4 := Option.some.inj ((show Tryd.prog.funcNamed "loop.example/gatelodge/laws.FnGateOrder" = some 4 by kernel_rfl).symm.trans hf) |>.symm
      obtain rfl : fn = Tryd.f4 := (Option.some.inj (Tryd.func4.symm.trans hfn)).symm
      exact ⟨by kernel_rfl, fun j t ht => by
        rw [Tryd.params4] at ht
        have hm : t ∈ [24] := by simpa using Array.mem_of_getElem? ht
        have hall : ([24].all fun u => !Tryd.prog.wantsStandIn u) = true := by kernel_rfl
        exact (show Tryd.prog.wantsStandIn t = false by simpa using List.all_eq_true.1 hall t hm)⟩)
    (by kernel_rfl)
#print axioms fnGateOrder_card
end Go.Proofs.YtdbojdgppgphkaaDoor
