/- FnExactPolicyFit: for every policy and call the law returns true and leaves its arguments as they were. The tables are tied to the program's text. No condition. -/
import Derived.Test.YtcocagdbkpkkaaaDoorPolLaw
import Derived.Test.YtcocagdbkpkkaaaDoorPolFit
namespace Go.Proofs.YtcocagdbkpkkaaaDoor
set_option linter.unusedSimpArgs false
open Go.ChangeShapes Go.WideShapes Go.ChangeAt Go.RowKit
set_option linter.unusedVariables false
set_option maxHeartbeats 1600000 in
theorem policyFit_law (A : Option Addr) (n c : Nat) (rs : List Rl) (e num : Int) (B : Option Addr) (m d : Nat) (xs : List Int) (w : World) (hr : RdR w w.heap.size A n rs) (hn : n ≤ 9223372036854775807) (hq : Rd w w.heap.size 1 B m (ints xs)) (hm : m ≤ 9223372036854775807) (hp : PT w w.heap.size) :
    Calls Tryd.prog 6 #[.agg #[.slice A n c, .int .i64 e], .agg #[.int .i64 num, .slice B m d]] w (RetB (.bool true) w) := by
  have HR := Lib.hid hr
  have HQ := Lib.hid hq
  have HP := Lib.hid hp
  clear hr hq hp
  by_cases hbig : n + ruleN rs ≤ 1048576
  · have hts : ∀ r ∈ rs, r.ts.length ≤ 1048576 := fun r h => by have := ruleN_mem h; omega
    have HTS := Lib.hid hts
    clear hts
    have hn1 : n ≤ 1048576 := by omega
    have hz2 : szV 1048576 (n + ruleN rs : Nat) = 1048576 - (n + ruleN rs : Nat) := by simp [szV]; omega
    by_cases hbig2 : (m : Int) ≤ 1048576 - (n + ruleN rs : Nat)
    · have HS1 := Lib.hid (fun W h => szPolicy_in A n c rs e W h hn hbig)
      have HC1 := Lib.hid (fun A c B d W h1 h2 => specPolicyFit_c A n c rs e num B m d xs W hn hm h1 h2)
      have HC2 := Lib.hid (fun A c B d W h1 h2 h3 => policyFit_c A n c rs e num B m d xs W hn hm h1 h2 h3)
      generalize polFitV ⟨rs, e⟩ num xs = V at *
      go_enter Tryd.func6, Tryd.ntmps6
      go_wp2_with (first
        | (go_at_call 14; refine (HS1.out _ (HR.out.upB (by go_grown) (by go_size))).mono ?_; rintro e w0 ⟨rfl, b0⟩; obtain ⟨gc0, gf0⟩ := below_get b0; (try simp only [heap_drew, World.size_alloc, World.size_setCell] at gc0 gf0); have H0 := below_via (w := w) (by go_grown) b0; have hs0 := b0.size; (try simp at hs0); have z0_0 : w.heap.size < w0.heap.size := (by omega); have z0_1 : w.heap.size + 1 < w0.heap.size := (by omega); clear b0)
        | (go_at_call 21; refine (szCall_c num B m d (1048576 - (n + ruleN rs : Nat)) _ hm (by omega) (by omega)).mono ?_; rintro e w1 ⟨rfl, b1⟩; obtain ⟨gc1, gf1⟩ := below_get b1; (try simp only [heap_drew, World.size_alloc, World.size_setCell] at gc1 gf1); have H1 := below_via H0 b1; have hs1 := b1.size; have z1_0 : w.heap.size < w1.heap.size := (by omega); have z1_1 : w.heap.size + 1 < w1.heap.size := (by omega); clear b1))
      · exfalso
        rename (szV _ _ < 0) => h
        simp [szV] at h; omega
      · rename (0 ≤ szV _ _) => h; clear h
        go_region_held3 (fun w' => w'.cell? ⟨w.heap.size, 0, none⟩ = some (.slice A n c) ∧ w'.cell? ⟨w.heap.size, 1, none⟩ = some (.int .i64 e) ∧ w'.cell? ⟨w.heap.size + 1, 0, none⟩ = some (.int .i64 num) ∧ w'.cell? ⟨w.heap.size + 1, 1, none⟩ = some (.slice B m d)) (simp [go_sem, *])
          (first
           | (go_at_call 16; refine (toPolicy_c A n c rs e _ ((HR.out.below (show Below w.heap.size w _ from below_via H1 (by go_grown))).more (by (try simp); omega)) hn1 HTS.out).mono ?_; rintro e w2 ⟨A2, c2, rfl, hown2, b2⟩; have H2 := below_on H1 (by go_grown) b2; obtain ⟨gc2, gf2⟩ := below_get b2; (try simp only [heap_drew, World.size_alloc, World.size_setCell] at gc2 gf2); have s2 := below_via (w := w1) (by go_grown) b2; have H2 := below_via H1 s2; have hs2 := b2.size; (try simp at hs2); have z2_0 : w.heap.size < w2.heap.size := (by omega); have z2_1 : w.heap.size + 1 < w2.heap.size := (by omega); clear b2; have R2 := Lib.hid hown2.rd; clear hown2)
           | (go_at_call 23; refine (toCall_c num B m d xs _ ((HQ.out.below (show Below w.heap.size w _ from below_via H2 (by go_grown))).more (by (try simp); omega)) (by omega)).mono ?_; rintro e w3 ⟨A3, c3, rfl, hown3, b3⟩; obtain ⟨gc3, gf3⟩ := below_get b3; (try simp only [heap_drew, World.size_alloc, World.size_setCell] at gc3 gf3); have s3 := below_via (w := w2) (by go_grown) b3; have H3 := below_via H2 s3; have hs3 := b3.size; (try simp at hs3); have z3_0 : w.heap.size < w3.heap.size := (by omega); have z3_1 : w.heap.size + 1 < w3.heap.size := (by omega); clear b3; have R3 := Lib.hid (Rd.of_own hown3); clear hown3)
           | (go_at_call 26; refine (HC1.out A2 c2 A3 c3 _ ((R2.out.up s3).upB (by go_grown) (by go_size)) (R3.out.upB (by go_grown) (by go_size))).mono ?_; rintro e w4 ⟨rfl, b4⟩; obtain ⟨gc4, gf4⟩ := below_get b4; (try simp only [heap_drew, World.size_alloc, World.size_setCell] at gc4 gf4); have s4 := below_via (w := w3) (by go_grown) b4; have H4 := below_via H3 s4; have hs4 := b4.size; (try simp at hs4); have z4_0 : w.heap.size < w4.heap.size := (by omega); have z4_1 : w.heap.size + 1 < w4.heap.size := (by omega); clear b4))
        go_wp2_with (go_at_call 16; refine (toPolicy_c A n c rs e _ ((HR.out.below (show Below w.heap.size w _ from below_via H4 (by go_grown))).more (by (try simp); omega)) hn1 HTS.out).mono ?_; rintro e w5 ⟨A5, c5, rfl, hown5, b5⟩; obtain ⟨gc5, gf5⟩ := below_get b5; (try simp only [heap_drew, World.size_alloc, World.size_setCell] at gc5 gf5); have s5 := below_via (w := w4) (by go_grown) b5; have H5 := below_via H4 s5; have hs5 := b5.size; (try simp at hs5); have z5_0 : w.heap.size < w5.heap.size := (by omega); have z5_1 : w.heap.size + 1 < w5.heap.size := (by omega); clear b5; have R5 := Lib.hid hown5.rd; clear hown5)
        go_wp2_with (go_at_call 23; refine (toCall_c num B m d xs _ ((HQ.out.below (show Below w.heap.size w _ from below_via H5 (by go_grown))).more (by (try simp); omega)) (by omega)).mono ?_; rintro e w6 ⟨A6, c6, rfl, hown6, b6⟩; obtain ⟨gc6, gf6⟩ := below_get b6; (try simp only [heap_drew, World.size_alloc, World.size_setCell] at gc6 gf6); have s6 := below_via (w := w5) (by go_grown) b6; have H6 := below_via H5 s6; have hs6 := b6.size; (try simp at hs6); have z6_0 : w.heap.size < w6.heap.size := (by omega); have z6_1 : w.heap.size + 1 < w6.heap.size := (by omega); have z6_2 : w5.heap.size < w6.heap.size := (by omega); clear b6; have R6 := Lib.hid (Rd.of_own hown6); clear hown6)
        go_wp2_with (go_at_call 27; refine (HC2.out A5 c5 A6 c6 _ ((R5.out.up s6).upB (by go_grown) (by go_size)) (R6.out.upB (by go_grown) (by go_size)) ((HP.out.below (show Below w.heap.size w _ from below_via H6 (by go_grown))).more (by (try simp); omega))).mono ?_; rintro e w7 ⟨rfl, b7⟩; obtain ⟨gc7, gf7⟩ := below_get b7; (try simp only [heap_drew, World.size_alloc, World.size_setCell] at gc7 gf7); have s7 := below_via (w := w6) (by go_grown) b7; have H7 := below_via H6 s7; have hs7 := b7.size; (try simp at hs7); have z7_0 : w.heap.size < w7.heap.size := (by omega); have z7_1 : w.heap.size + 1 < w7.heap.size := (by omega); have z7_2 : w5.heap.size < w7.heap.size := (by omega); have z7_3 : w6.heap.size < w7.heap.size := (by omega); clear b7)
        go_region_held3 (fun w' => w'.cell? ⟨w.heap.size, 0, none⟩ = some (.slice A n c) ∧ w'.cell? ⟨w.heap.size, 1, none⟩ = some (.int .i64 e) ∧ w'.cell? ⟨w.heap.size + 1, 0, none⟩ = some (.int .i64 num) ∧ w'.cell? ⟨w.heap.size + 1, 1, none⟩ = some (.slice B m d) ∧ w'.cell? ⟨w5.heap.size, 0, none⟩ = some (.slice A5 n c5) ∧ w'.cell? ⟨w5.heap.size, 1, none⟩ = some (.int .i64 e) ∧ w'.cell? ⟨w6.heap.size, 0, none⟩ = some (.int .i64 num) ∧ w'.cell? ⟨w6.heap.size, 1, none⟩ = some (.slice A6 m c6)) (simp [go_sem, *])
          (first
           | (go_at_call 16; refine (toPolicy_c A n c rs e _ ((HR.out.below (show Below w.heap.size w _ from below_via H7 (by go_grown))).more (by (try simp); omega)) hn1 HTS.out).mono ?_; rintro e w8 ⟨A8, c8, rfl, hown8, b8⟩; obtain ⟨gc8, gf8⟩ := below_get b8; (try simp only [heap_drew, World.size_alloc, World.size_setCell] at gc8 gf8); have s8 := below_via (w := w7) (by go_grown) b8; have H8 := below_via H7 s8; have hs8 := b8.size; (try simp at hs8); have z8_0 : w.heap.size < w8.heap.size := (by omega); have z8_1 : w.heap.size + 1 < w8.heap.size := (by omega); have z8_2 : w5.heap.size < w8.heap.size := (by omega); have z8_3 : w6.heap.size < w8.heap.size := (by omega); clear b8; have R8 := Lib.hid hown8.rd; clear hown8)
           | (go_at_call 18; refine (eqPolicy_c A5 A8 n c5 n c8 rs rs e e _ ((((R5.out.up s6).up s7).up s8).upB (by go_grown) (by go_size)) (R8.out.upB (by go_grown) (by go_size)) hn hn).mono ?_; rintro e w9 ⟨rfl, b9⟩; obtain ⟨gc9, gf9⟩ := below_get b9; (try simp only [heap_drew, World.size_alloc, World.size_setCell] at gc9 gf9); have s9 := below_via (w := w8) (by go_grown) b9; have H9 := below_via H8 s9; have hs9 := b9.size; (try simp at hs9); have z9_0 : w.heap.size < w9.heap.size := (by omega); have z9_1 : w.heap.size + 1 < w9.heap.size := (by omega); have z9_2 : w5.heap.size < w9.heap.size := (by omega); have z9_3 : w6.heap.size < w9.heap.size := (by omega); clear b9))
        go_wp2
        go_region_held3 (fun w' => w'.cell? ⟨w.heap.size, 0, none⟩ = some (.slice A n c) ∧ w'.cell? ⟨w.heap.size, 1, none⟩ = some (.int .i64 e) ∧ w'.cell? ⟨w.heap.size + 1, 0, none⟩ = some (.int .i64 num) ∧ w'.cell? ⟨w.heap.size + 1, 1, none⟩ = some (.slice B m d) ∧ w'.cell? ⟨w6.heap.size, 0, none⟩ = some (.int .i64 num) ∧ w'.cell? ⟨w6.heap.size, 1, none⟩ = some (.slice A6 m c6)) (simp [go_sem, *])
          (first
           | (go_at_call 23; refine (toCall_c num B m d xs _ ((HQ.out.below (show Below w.heap.size w _ from below_via H9 (by go_grown))).more (by (try simp); omega)) (by omega)).mono ?_; rintro e w10 ⟨A10, c10, rfl, hown10, b10⟩; obtain ⟨gc10, gf10⟩ := below_get b10; (try simp only [heap_drew, World.size_alloc, World.size_setCell] at gc10 gf10); have s10 := below_via (w := w9) (by go_grown) b10; have H10 := below_via H9 s10; have hs10 := b10.size; (try simp at hs10); have z10_0 : w.heap.size < w10.heap.size := (by omega); have z10_1 : w.heap.size + 1 < w10.heap.size := (by omega); have z10_2 : w6.heap.size < w10.heap.size := (by omega); clear b10; have R10 := Lib.hid (Rd.of_own hown10); clear hown10)
           | (go_at_call 25; refine (eqCall_c num num A6 A10 m c6 m c10 xs xs _ (((((R6.out.up s7).up s8).up s9).up s10).upB (by go_grown) (by go_size)) (R10.out.upB (by go_grown) (by go_size)) hm hm).mono ?_; rintro e w11 ⟨rfl, b11⟩; obtain ⟨gc11, gf11⟩ := below_get b11; (try simp only [heap_drew, World.size_alloc, World.size_setCell] at gc11 gf11); have s11 := below_via (w := w10) (by go_grown) b11; have H11 := below_via H10 s11; have hs11 := b11.size; (try simp at hs11); have z11_0 : w.heap.size < w11.heap.size := (by omega); have z11_1 : w.heap.size + 1 < w11.heap.size := (by omega); have z11_2 : w6.heap.size < w11.heap.size := (by omega); clear b11))
        go_wp2
        go_returns
        exact ⟨rfl, by go_grown⟩
    · have HS1 := Lib.hid (fun W h => szPolicy_in A n c rs e W h hn hbig)
      go_enter Tryd.func6, Tryd.ntmps6
      go_wp2_with (first
        | (go_at_call 14; refine (HS1.out _ (HR.out.upB (by go_grown) (by go_size))).mono ?_; rintro e w0 ⟨rfl, b0⟩; obtain ⟨gc0, gf0⟩ := below_get b0; (try simp only [heap_drew, World.size_alloc, World.size_setCell] at gc0 gf0); have H0 := below_via (w := w) (by go_grown) b0; have hs0 := b0.size; (try simp at hs0); have z0_0 : w.heap.size < w0.heap.size := (by omega); have z0_1 : w.heap.size + 1 < w0.heap.size := (by omega); clear b0)
        | (go_at_call 21; refine (szCall_c num B m d (1048576 - (n + ruleN rs : Nat)) _ hm (by omega) (by omega)).mono ?_; rintro e w1 ⟨rfl, b1⟩; have H1 := below_via H0 b1; clear b1))
      · go_returns
        exact ⟨rfl, by go_grown⟩
      · exfalso
        rename (0 ≤ szV _ _) => h
        simp [szV] at h; split at h <;> omega
  · go_enter Tryd.func6, Tryd.ntmps6
    go_wp2_with (first
      | (go_at_call 14; refine (szPolicy_c A n c rs e _ _ (HR.out.upB (by go_grown) (by go_size)) hn (by omega) (by omega)).mono ?_; rintro e w1 ⟨rfl, b1⟩; obtain ⟨gc1, gf1⟩ := below_get b1; (try simp only [heap_drew, World.size_alloc, World.size_setCell] at gc1 gf1); have s1 := below_via (w := w) (by go_grown) b1; have H1 := s1; have hs1 := b1.size; (try simp at hs1); have z1_0 : w.heap.size < w1.heap.size := (by omega); have z1_1 : w.heap.size + 1 < w1.heap.size := (by omega); clear b1)
      | (go_at_call 21; refine (szCall_c num B m d _ _ hm (by omega) (by omega)).mono ?_; rintro e w2 ⟨rfl, b2⟩; obtain ⟨gc2, gf2⟩ := below_get b2; (try simp only [heap_drew, World.size_alloc, World.size_setCell] at gc2 gf2); have s2 := below_via (w := w1) (by go_grown) b2; have H2 := below_via H1 s2; have hs2 := b2.size; (try simp at hs2); have z2_0 : w.heap.size < w2.heap.size := (by omega); clear b2))
    · go_returns
      exact ⟨rfl, by go_grown⟩
    all_goals (exfalso; rename (0 ≤ szV _ _) => h; simp [szV] at h; split at h <;> omega)
theorem fnExactPolicyFit_w (v0 v1 : Value) (w : World) (h0 : IsPolicy w v0) (h1 : IsCall w v1) (hK : PT w w.heap.size) : Calls Tryd.prog 6 #[v0, v1] w (RetB (.bool true) w) := by
  obtain ⟨A, n, c, rs, e, rfl, hr, hn⟩ := h0
  obtain ⟨num, B, m, d, xs, rfl, hq, hm⟩ := h1
  exact policyFit_law A n c rs e num B m d xs w hr (by unfold maxLen at hn; omega) hq (by unfold maxLen at hm; omega) hK
set_option maxRecDepth 100000 in
theorem fnExactPolicyFit_lifted (os : Os) (started : os.Started) (H : Type) (enc : TypeId × Value → H) :
    ReturnsInHanded {} Tryd.checked os 6 .any (fun w args => (Rows.fnExactPolicyFitSpec.pre enc Tryd.prog Tryd.f6 [] false w args ∧ laidMetH Tryd.prog Rows.fnExactPolicyFitRow.laid w) ∧ sizedMet enc Tryd.prog Tryd.f6 (OpenSpec.ofChange Rows.fnExactPolicyFitSpec) false w args)
      (Rows.fnExactPolicyFitSpec.post enc Tryd.prog Tryd.f6 false true false false) := by
  refine returnsInHanded_of_change_and (C := Tryd.checked) (X := fun w _ => laidMetH Tryd.prog Rows.fnExactPolicyFitRow.laid w) (fun _ _ _ hh h => h.of_heap hh) own started (by kernel_rfl) Tryd.func6
    (ChangeSpec.witness_shaped (enc := enc) (C := Tryd.checked) (os := os) (X := fun w _ => laidMetH Tryd.prog Rows.fnExactPolicyFitRow.laid w) false (World.doorLaid Tryd.prog 400 os) #[.agg #[.slice none 0 0, .int .i64 0], .agg #[.int .i64 0, .slice none 0 0]] 8 rfl (World.shaped_of_RefB (by kernel_rfl) (by kernel_rfl)) (by kernel_rfl) (by kernel_rfl) (by kernel_rfl) (laid_met os _)) ?_
  intro W base args ds gs before hval0 hW _ _ hL _
  have hval : ∀ (j : Nat) t v, Tryd.f6.params[j]? = some t → args[j]? = some v → Value.okWide Tryd.prog W .any base t v := hval0
  have hW' := hW
  obtain ⟨p, q, hA0, hV, rfl, hfz, hnd⟩ := hW
  have hA : DataW.TrodAll enc Tryd.prog W 0 (fun _ => true) true Tryd.f6.params.toList args.toList ds p := hA0
  rw [Tryd.params6] at hA hval
  obtain ⟨v0, vs0, d0, ds0, p0, q0, hargs, rfl, rfl, h0, r0⟩ := trodAll_cons hA
  obtain ⟨v1, vs1, d1, ds1, p1, q1, rfl, rfl, rfl, h1, r1⟩ := trodAll_cons r0
  obtain ⟨rfl, rfl, rfl⟩ := trodAll_nil r1
  obtain rfl : args = #[v0, v1] := by cases args; simp_all
  obtain ⟨rfl, rfl⟩ := trodVars_none hV
  have k0 := h0
  have lt0 : ∀ x ∈ p0, x.block < W.heap.size := by obtain ⟨m, hm⟩ := k0; exact DataW.trod_lt m _ _ _ hm
  have o0 := open_Policy (hval 0 24 v0 rfl rfl) h0
  have k1 := h1
  have lt1 : ∀ x ∈ p1, x.block < W.heap.size := by obtain ⟨m, hm⟩ := k1; exact DataW.trod_lt m _ _ _ hm
  have o1 := open_Call (hval 1 36 v1 rfl rfl) h1
  clear hA0 hval0
  refine (fnExactPolicyFit_w v0 v1 W o0 o1 (pt_of_laid hL)).mono fun e W' ⟨he, bel⟩ => ?_
  subst he
  exact ⟨_, rfl, _, _, _, [], _, [], hW', trodAll_mk1 (shut_bool Tryd.underlying4 _), (trodAll_cons_mk (Below.trod laidOut (by kernel_rfl) (of_decide_eq_true (by kernel_rfl)) k0 bel lt0) (trodAll_cons_mk (Below.trod laidOut (by kernel_rfl) (of_decide_eq_true (by kernel_rfl)) k1 bel lt1) trodAll_mk0)), rfl, bel.frame _, fun h => by cases h⟩

theorem fnExactPolicyFit_holds : Rows.FnExactPolicyFitSaid :=
  OpenClaim.holds_of_wide 6 Tryd.f6 rfl rfl rfl rfl rfl rfl rfl ⟨rfl, rfl, rfl, rfl, rfl⟩ rfl rfl rfl rfl rfl (by kernel_rfl) Tryd.func6 (by kernel_rfl)
    (of_decide_eq_true (by kernel_rfl)) (by unfold Func.isWrapper; rw [if_neg (of_decide_eq_false (by kernel_rfl))]; exact ⟨rfl, rfl⟩)
    (fun os started H enc _ => fnExactPolicyFit_lifted os started H enc)
theorem fnExactPolicyFit_card : Rows.FnExactPolicyFitCardSaid :=
  Claim7.holds_tied_plain_at .later [] [.data, .data, .data] true (true, "1bec60d0faf7977a9d47a45710736ecb076b1668f732cd746a3417471cc71ec6") false
    fnExactPolicyFit_holds (fun _ h => by cases h) (by kernel_rfl) (fun _ h => by cases h) fnExactPolicyFit_row_tie rfl ⟨rfl, rfl⟩ (by kernel_rfl) rfl
    (fun f fn hf hfn => by
      obtain rfl : f = 6 := Option.some.inj ((show Tryd.prog.funcNamed "loop.example/gatelodge/laws.FnExactPolicyFit" = some 6 by kernel_rfl).symm.trans hf) |>.symm
      obtain rfl : fn = Tryd.f6 := (Option.some.inj (Tryd.func6.symm.trans hfn)).symm
      exact ⟨by kernel_rfl, fun j t ht => by
        rw [Tryd.params6] at ht
        have hm : t ∈ [24, 36] := by simpa using Array.mem_of_getElem? ht
        have hall : ([24, 36].all fun u => !Tryd.prog.wantsStandIn u) = true := by kernel_rfl
        exact (show Tryd.prog.wantsStandIn t = false by simpa using List.all_eq_true.1 hall t hm)⟩)
    (by kernel_rfl)
#print axioms fnExactPolicyFit_card
end Go.Proofs.YtcocagdbkpkkaaaDoor
