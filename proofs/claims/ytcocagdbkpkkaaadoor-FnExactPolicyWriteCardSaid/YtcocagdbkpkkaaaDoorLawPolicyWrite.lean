/- FnExactPolicyWrite: for every policy the law returns true and leaves its argument as it was. The tables are tied to the program's text. No condition. -/
import Derived.Test.YtcocagdbkpkkaaaDoorPolLaw
namespace Go.Proofs.YtcocagdbkpkkaaaDoor
set_option linter.unusedSimpArgs false
open Go.ChangeShapes Go.WideShapes Go.ChangeAt Go.RowKit
set_option linter.unusedVariables false
set_option maxHeartbeats 1600000 in
theorem policyWrite_law (A : Option Addr) (n c : Nat) (rs : List Rl) (e : Int) (w : World) (hr : RdR w w.heap.size A n rs) (hn : n ≤ 9223372036854775807) (hp : PT w w.heap.size) :
    Calls Tryd.prog 4 #[.agg #[.slice A n c, .int .i64 e]] w (RetB (.bool true) w) := by
  have HR := Lib.hid hr
  have HP := Lib.hid hp
  clear hr hp
  by_cases hbig : n + ruleN rs ≤ 1048576
  · have hts : ∀ r ∈ rs, r.ts.length ≤ 1048576 := fun r h => by have := ruleN_mem h; omega
    have HTS := Lib.hid hts
    clear hts
    have hn1 : n ≤ 1048576 := by omega
    have HC1 := Lib.hid (fun A c W h => specPolicyWrite_c A n c rs e W h hn)
    have HC2 := Lib.hid (fun A c W h1 h2 => policyWrite_c A n c rs e W h1 hn h2)
    generalize polS ⟨rs, e⟩ = S at *
    go_enter Tryd.func4, Tryd.ntmps4
    go_wp2_with (first
      | (go_at_call 14; refine (szPolicy_c A n c rs e _ _ (HR.out.upB (by go_grown) (by go_size)) hn (by omega) (by omega)).mono ?_; rintro e w1 ⟨rfl, b1⟩; obtain ⟨gc1, gf1⟩ := below_get b1; (try simp only [heap_drew, World.size_alloc, World.size_setCell] at gc1 gf1); have s1 := below_via (w := w) (by go_grown) b1; have H1 := s1; have hs1 := b1.size; (try simp at hs1); have z1_0 : w.heap.size < w1.heap.size := (by omega); clear b1))
    · exfalso
      rename (szV _ _ < 0) => h
      simp [szV] at h; omega
    · rename (0 ≤ szV _ _) => h; clear h
      go_wp2_with (first
        | (go_at_call 19; refine (HC1.out A2 c2 _ (R2.out.upB (by go_grown) (by go_size))).mono ?_; rintro e w3 ⟨rfl, b3⟩; obtain ⟨gc3, gf3⟩ := below_get b3; (try simp only [heap_drew, World.size_alloc, World.size_setCell] at gc3 gf3); have s3 := below_via (w := w2) (by go_grown) b3; have H3 := below_via H2 s3; have hs3 := b3.size; (try simp at hs3); have z3_0 : w.heap.size < w3.heap.size := (by omega); clear b3)
        | (go_at_call 20; refine (HC2.out A4 c4 _ (R4.out.upB (by go_grown) (by go_size)) ((HP.out.below (show Below w.heap.size w _ from below_via H4 (by go_grown))).more (by (try simp); omega))).mono ?_; rintro e w5 ⟨rfl, b5⟩; obtain ⟨gc5, gf5⟩ := below_get b5; (try simp only [heap_drew, World.size_alloc, World.size_setCell] at gc5 gf5); have s5 := below_via (w := w4) (by go_grown) b5; have H5 := below_via H4 s5; have hs5 := b5.size; (try simp at hs5); have z5_0 : w.heap.size < w5.heap.size := (by omega); have z5_1 : w4.heap.size < w5.heap.size := (by omega); clear b5)
        | (go_at_call 16; refine (toPolicy_c A n c rs e _ ((((HR.out.up s1).up s2).up s3).upB (by go_grown) (by go_size)) hn1 HTS.out).mono ?_; rintro e w4 ⟨A4, c4, rfl, hown4, b4⟩; obtain ⟨gc4, gf4⟩ := below_get b4; (try simp only [heap_drew, World.size_alloc, World.size_setCell] at gc4 gf4); have s4 := below_via (w := w3) (by go_grown) b4; have H4 := below_via H3 s4; have hs4 := b4.size; (try simp at hs4); have z4_0 : w.heap.size < w4.heap.size := (by omega); clear b4; have R4 := Lib.hid hown4.rd; clear hown4)
        | (go_at_call 16; refine (toPolicy_c A n c rs e _ ((HR.out.up s1).upB (by go_grown) (by go_size)) hn1 HTS.out).mono ?_; rintro e w2 ⟨A2, c2, rfl, hown2, b2⟩; obtain ⟨gc2, gf2⟩ := below_get b2; (try simp only [heap_drew, World.size_alloc, World.size_setCell] at gc2 gf2); have s2 := below_via (w := w1) (by go_grown) b2; have H2 := below_via H1 s2; have hs2 := b2.size; (try simp at hs2); have z2_0 : w.heap.size < w2.heap.size := (by omega); clear b2; have R2 := Lib.hid hown2.rd; clear hown2))
      go_region_held3 (fun w' => w'.cell? ⟨w.heap.size, 0, none⟩ = some (.slice A n c) ∧ w'.cell? ⟨w.heap.size, 1, none⟩ = some (.int .i64 e) ∧ w'.cell? ⟨w4.heap.size, 0, none⟩ = some (.slice A4 n c4) ∧ w'.cell? ⟨w4.heap.size, 1, none⟩ = some (.int .i64 e)) (simp [go_sem, *])
        (first
         | (go_at_call 16; refine (toPolicy_c A n c rs e _ ((((((HR.out.up s1).up s2).up s3).up s4).up s5).upB (by go_grown) (by go_size)) hn1 HTS.out).mono ?_; rintro e w6 ⟨A6, c6, rfl, hown6, b6⟩; obtain ⟨gc6, gf6⟩ := below_get b6; (try simp only [heap_drew, World.size_alloc, World.size_setCell] at gc6 gf6); have s6 := below_via (w := w5) (by go_grown) b6; have H6 := below_via H5 s6; have hs6 := b6.size; (try simp at hs6); have z6_0 : w.heap.size < w6.heap.size := (by omega); have z6_1 : w4.heap.size < w6.heap.size := (by omega); clear b6; have R6 := Lib.hid hown6.rd; clear hown6)
         | (go_at_call 18; refine (eqPolicy_c A4 A6 n c4 n c6 rs rs e e _ (((R4.out.up s5).up s6).upB (by go_grown) (by go_size)) (R6.out.upB (by go_grown) (by go_size)) hn hn).mono ?_; rintro e w7 ⟨rfl, b7⟩; obtain ⟨gc7, gf7⟩ := below_get b7; (try simp only [heap_drew, World.size_alloc, World.size_setCell] at gc7 gf7); have s7 := below_via (w := w6) (by go_grown) b7; have H7 := below_via H6 s7; have hs7 := b7.size; (try simp at hs7); have z7_0 : w.heap.size < w7.heap.size := (by omega); have z7_1 : w4.heap.size < w7.heap.size := (by omega); clear b7))
      go_wp2
      go_returns
      exact ⟨rfl, by go_grown⟩
  · go_enter Tryd.func4, Tryd.ntmps4
    go_wp2_with (first
      | (go_at_call 14; refine (szPolicy_c A n c rs e _ _ (HR.out.upB (by go_grown) (by go_size)) hn (by omega) (by omega)).mono ?_; rintro e w1 ⟨rfl, b1⟩; obtain ⟨gc1, gf1⟩ := below_get b1; (try simp only [heap_drew, World.size_alloc, World.size_setCell] at gc1 gf1); have s1 := below_via (w := w) (by go_grown) b1; have H1 := s1; have hs1 := b1.size; (try simp at hs1); have z1_0 : w.heap.size < w1.heap.size := (by omega); clear b1))
    · go_returns
      exact ⟨rfl, by go_grown⟩
    · exfalso
      rename (0 ≤ szV _ _) => h
      simp [szV] at h; split at h <;> omega
theorem fnExactPolicyWrite_w (v : Value) (w : World) (h : IsPolicy w v) (hK : PT w w.heap.size) : Calls Tryd.prog 4 #[v] w (RetB (.bool true) w) := by
  obtain ⟨A, n, c, rs, e, rfl, hr, hn⟩ := h
  exact policyWrite_law A n c rs e w hr (by unfold maxLen at hn; omega) hK
theorem fnExactPolicyWrite_met (os : Os) (args : Array Value) : laidMetH Tryd.prog Rows.fnExactPolicyWriteRow.laid ((World.doorLaid Tryd.prog 400 os).forCall (fun _ _ => 0) ⟨#[], args, []⟩).memory :=
  laidMetH_of_parts3 (fuel := 8) (laidMet_of_run' 8 (by kernel_rfl) (by kernel_rfl)) (by kernel_rfl) (by kernel_rfl)
set_option maxRecDepth 100000 in
theorem fnExactPolicyWrite_lifted (os : Os) (started : os.Started) (H : Type) (enc : TypeId × Value → H) :
    ReturnsInHanded {} Tryd.checked os 4 .any (fun w args => (Rows.fnExactPolicyWriteSpec.pre enc Tryd.prog Tryd.f4 [] false w args ∧ laidMetH Tryd.prog Rows.fnExactPolicyWriteRow.laid w) ∧ sizedMet enc Tryd.prog Tryd.f4 (OpenSpec.ofChange Rows.fnExactPolicyWriteSpec) false w args)
      (Rows.fnExactPolicyWriteSpec.post enc Tryd.prog Tryd.f4 false true false false) := by
  refine returnsInHanded_of_change_and (C := Tryd.checked) (X := fun w _ => laidMetH Tryd.prog Rows.fnExactPolicyWriteRow.laid w) (fun _ _ _ hh h => h.of_heap hh) own started (by kernel_rfl) Tryd.func4
    (ChangeSpec.witness_shaped (enc := enc) (C := Tryd.checked) (os := os) (X := fun w _ => laidMetH Tryd.prog Rows.fnExactPolicyWriteRow.laid w) false (World.doorLaid Tryd.prog 400 os) #[.agg #[.slice none 0 0, .int .i64 0]] 8 rfl (World.shaped_of_RefB (by kernel_rfl) (by kernel_rfl)) (by kernel_rfl) (by kernel_rfl) (by kernel_rfl) (fnExactPolicyWrite_met os _)) ?_
  intro W base args ds gs before hval0 hW _ _ hL _
  have hval : ∀ (j : Nat) t v, Tryd.f4.params[j]? = some t → args[j]? = some v → Value.okWide Tryd.prog W .any base t v := hval0
  have hW' := hW
  obtain ⟨p, q, hA0, hV, rfl, hfz, hnd⟩ := hW
  have hA : DataW.TrodAll enc Tryd.prog W 0 (fun _ => true) true Tryd.f4.params.toList args.toList ds p := hA0
  rw [Tryd.params4] at hA hval
  obtain ⟨v0, vs0, d0, ds0, p0, q0, hargs, rfl, rfl, h0, r0⟩ := trodAll_cons hA
  obtain ⟨rfl, rfl, rfl⟩ := trodAll_nil r0
  obtain rfl : args = #[v0] := by cases args; simp_all
  obtain ⟨rfl, rfl⟩ := trodVars_none hV
  have k0 := h0
  have lt0 : ∀ x ∈ p0, x.block < W.heap.size := by obtain ⟨m, hm⟩ := k0; exact DataW.trod_lt m _ _ _ hm
  have o0 := open_Policy (hval 0 24 v0 rfl rfl) h0
  clear hA0 hval0
  refine (fnExactPolicyWrite_w v0 W o0 (pt_of_laid hL)).mono fun e W' ⟨he, bel⟩ => ?_
  subst he
  exact ⟨_, rfl, _, _, _, [], _, [], hW', trodAll_mk1 (shut_bool Tryd.underlying4 _), (trodAll_cons_mk (Below.trod laidOut (by kernel_rfl) (of_decide_eq_true (by kernel_rfl)) k0 bel lt0) trodAll_mk0), rfl, bel.frame _, fun h => by cases h⟩

theorem fnExactPolicyWrite_holds : Rows.FnExactPolicyWriteSaid :=
  OpenClaim.holds_of_wide 4 Tryd.f4 rfl rfl rfl rfl rfl rfl rfl ⟨rfl, rfl, rfl, rfl, rfl⟩ rfl rfl rfl rfl rfl (by kernel_rfl) Tryd.func4 (by kernel_rfl)
    (of_decide_eq_true (by kernel_rfl)) (by unfold Func.isWrapper; rw [if_neg (of_decide_eq_false (by kernel_rfl))]; exact ⟨rfl, rfl⟩)
    (fun os started H enc _ => fnExactPolicyWrite_lifted os started H enc)
theorem fnExactPolicyWrite_card : Rows.FnExactPolicyWriteCardSaid :=
  Claim7.holds_tied_plain_at .later [] [.data, .data, .data] true (true, "1bec60d0faf7977a9d47a45710736ecb076b1668f732cd746a3417471cc71ec6") false
    fnExactPolicyWrite_holds (fun _ h => by cases h) (by kernel_rfl) (fun _ h => by cases h) fnExactPolicyWrite_row_tie rfl ⟨rfl, rfl⟩ (by kernel_rfl) rfl
    (fun f fn hf hfn => by
      obtain rfl : f = 4 := Option.some.inj ((show Tryd.prog.funcNamed "loop.example/gatelodge/laws.FnExactPolicyWrite" = some 4 by kernel_rfl).symm.trans hf) |>.symm
      obtain rfl : fn = Tryd.f4 := (Option.some.inj (Tryd.func4.symm.trans hfn)).symm
      exact ⟨by kernel_rfl, fun j t ht => by
        rw [Tryd.params4] at ht
        have hm : t ∈ [24] := by simpa using Array.mem_of_getElem? ht
        have hall : ([24].all fun u => !Tryd.prog.wantsStandIn u) = true := by kernel_rfl
        exact (show Tryd.prog.wantsStandIn t = false by simpa using List.all_eq_true.1 hall t hm)⟩)
    (by kernel_rfl)
#print axioms fnExactPolicyWrite_card
end Go.Proofs.YtcocagdbkpkkaaaDoor
