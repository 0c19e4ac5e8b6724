/- FnExactGraphRun: for all points and calls the law returns true and leaves its arguments as they were. No condition. -/
import Derived.Test.YtbijlencoilchaaOpen2
import Derived.Test.YtbijlencoilchaaGraphRun2
import Derived.Test.YtbijlencoilchaaPoint
namespace Go.Proofs.Ytbijlencoilchaa
open Go.ChangeShapes Go.WideShapes Go.ChangeAt Go.RowKit
set_option linter.unusedVariables false
theorem szPointS_in (A : Option Addr) (n c : Nat) (l : Int) (w : World) (hn : n ≤ 9223372036854775807) (h1 : (n : Int) ≤ l) (h2 : l ≤ 9223372036854775807) : Calls Try.prog 20 #[.slice A n c, .int .i64 l] w (RetW (.int .i64 (l - n)) w) :=
  (szPointS_c A n c l w hn (by omega) h2).mono fun e w' ⟨he, hw⟩ => ⟨by rw [he]; simp [szV]; omega, hw⟩
theorem graphRun_law (A : Option Addr) (n c : Nat) (ps : List Pt) (num : Int) (B : Option Addr) (m d : Nat) (xs : List Int) (w : World) (hr : Rd w w.heap.size 7 A n (pts ps)) (hn : n ≤ 9223372036854775807)
    (hq : Rd w w.heap.size 1 B m (ints xs)) (hm : m ≤ 9223372036854775807) :
    Calls Try.prog 9 #[.slice A n c, .agg #[.int .i64 num, .slice B m d]] w (RetB (.bool true) w) := by
  have HR := Lib.hid hr
  have HQ := Lib.hid hq
  clear hr hq
  by_cases hbig : n ≤ 1048576
  · by_cases hbig2 : (m : Int) ≤ 1048576 - n
    · go_enter Try.func9, Try.ntmps9
      go_wp2_with (first
        | (go_at_call 20; refine (szPointS_in A n c _ _ hn (by omega) (by omega)).mono ?_; rintro e w' ⟨rfl, rfl⟩)
        | (go_at_call 15; refine (szCall_c num B m d (1048576 - n) _ hm (by omega) (by omega)).mono ?_; rintro e w1 ⟨rfl, b1⟩; obtain ⟨gc1, gf1⟩ := below_get b1; (try simp only [heap_drew, World.size_alloc, World.size_setCell] at gc1 gf1); have s1 := below_via (w := w) (by go_grown) b1; have H1 := s1; have hs1 := b1.size; (try simp at hs1); have z1_0 : w.heap.size < w1.heap.size := (by omega); clear b1))
      · exfalso
        rename (szV _ _ < 0) => h
        simp [szV] at h; omega
      · rename (0 ≤ szV _ _) => h; clear h
        go_region_held3 (fun w' => w'.cell? ⟨w.heap.size, 0, none⟩ = some (.int .i64 num) ∧ w'.cell? ⟨w.heap.size, 1, none⟩ = some (.slice B m d)) (simp [go_sem, *])
          (first
           | (go_at_call 22; refine (toPointS_c A n c ps _ ((HR.out.up s1).upB (by go_grown) (by go_size)) hbig).mono ?_; rintro e w2 ⟨A2, c2, rfl, hown2, b2⟩; obtain ⟨gc2, gf2⟩ := below_get b2; (try simp only [heap_drew, World.size_alloc, World.size_setCell] at gc2 gf2); have s2 := below_via (w := w1) (by go_grown) b2; have H2 := below_via H1 s2; have hs2 := b2.size; (try simp at hs2); have z2_0 : w.heap.size < w2.heap.size := (by omega); clear b2; have R2 := Lib.hid (Rd.of_own hown2); clear hown2)
           | (go_at_call 17; refine (toCall_c num B m d xs _ (((HQ.out.up s1).up s2).upB (by go_grown) (by go_size)) (by omega)).mono ?_; rintro e w3 ⟨A3, c3, rfl, hown3, b3⟩; obtain ⟨gc3, gf3⟩ := below_get b3; (try simp only [heap_drew, World.size_alloc, World.size_setCell] at gc3 gf3); have s3 := below_via (w := w2) (by go_grown) b3; have H3 := below_via H2 s3; have hs3 := b3.size; (try simp at hs3); have z3_0 : w.heap.size < w3.heap.size := (by omega); clear b3; have R3 := Lib.hid (Rd.of_own hown3); clear hown3)
           | (go_at_call 30; refine (specGraphRun_c A2 n c2 ps num A3 m c3 xs _ ((R2.out.up s3).upB (by go_grown) (by go_size)) hn (R3.out.upB (by go_grown) (by go_size)) hm).mono ?_; rintro e w4 ⟨rfl, b4⟩; obtain ⟨gc4, gf4⟩ := below_get b4; (try simp only [heap_drew, World.size_alloc, World.size_setCell] at gc4 gf4); have s4 := below_via (w := w3) (by go_grown) b4; have H4 := below_via H3 s4; have hs4 := b4.size; (try simp at hs4); have z4_0 : w.heap.size < w4.heap.size := (by omega); clear b4))
        go_wp2_with (go_at_call 22; refine (toPointS_c A n c ps _ (((((HR.out.up s1).up s2).up s3).up s4).upB (by go_grown) (by go_size)) hbig).mono ?_; rintro e w5 ⟨A5, c5, rfl, hown5, b5⟩; obtain ⟨gc5, gf5⟩ := below_get b5; (try simp only [heap_drew, World.size_alloc, World.size_setCell] at gc5 gf5); have s5 := below_via (w := w4) (by go_grown) b5; have H5 := below_via H4 s5; have hs5 := b5.size; (try simp at hs5); have z5_0 : w.heap.size < w5.heap.size := (by omega); clear b5; have R5 := Lib.hid (Rd.of_own hown5); clear hown5)
        go_wp2_with (go_at_call 17; refine (toCall_c num B m d xs _ ((((((HQ.out.up s1).up s2).up s3).up s4).up s5).upB (by go_grown) (by go_size)) (by omega)).mono ?_; rintro e w6 ⟨A6, c6, rfl, hown6, b6⟩; obtain ⟨gc6, gf6⟩ := below_get b6; (try simp only [heap_drew, World.size_alloc, World.size_setCell] at gc6 gf6); have s6 := below_via (w := w5) (by go_grown) b6; have H6 := below_via H5 s6; have hs6 := b6.size; (try simp at hs6); have z6_0 : w.heap.size < w6.heap.size := (by omega); clear b6; have R6 := Lib.hid (Rd.of_own hown6); clear hown6)
        go_wp2_with (go_at_call 31; refine (graphRun_c A5 n c5 ps num A6 m c6 xs _ ((R5.out.up s6).upB (by go_grown) (by go_size)) hn (R6.out.upB (by go_grown) (by go_size)) hm).mono ?_; rintro e w7 ⟨rfl, b7⟩; obtain ⟨gc7, gf7⟩ := below_get b7; (try simp only [heap_drew, World.size_alloc, World.size_setCell] at gc7 gf7); have s7 := below_via (w := w6) (by go_grown) b7; have H7 := below_via H6 s7; have hs7 := b7.size; (try simp at hs7); have z7_0 : w.heap.size < w7.heap.size := (by omega); have z7_1 : w6.heap.size < w7.heap.size := (by omega); clear b7)
        go_wp2_with (go_at_call 22; refine (toPointS_c A n c ps _ ((((((((HR.out.up s1).up s2).up s3).up s4).up s5).up s6).up s7).upB (by go_grown) (by go_size)) hbig).mono ?_; rintro e w8 ⟨A8, c8, rfl, hown8, b8⟩; obtain ⟨gc8, gf8⟩ := below_get b8; (try simp only [heap_drew, World.size_alloc, World.size_setCell] at gc8 gf8); have s8 := below_via (w := w7) (by go_grown) b8; have H8 := below_via H7 s8; have hs8 := b8.size; (try simp at hs8); have z8_0 : w.heap.size < w8.heap.size := (by omega); have z8_1 : w6.heap.size < w8.heap.size := (by omega); clear b8; have R8 := Lib.hid (Rd.of_own hown8); clear hown8)
        go_wp2_with (go_at_call 24; refine (eqPointS_c A5 A8 n c5 n c8 ps ps _ ((((R5.out.up s6).up s7).up s8).upB (by go_grown) (by go_size)) (R8.out.upB (by go_grown) (by go_size)) hn hn).mono ?_; rintro e w9 ⟨rfl, b9⟩; obtain ⟨gc9, gf9⟩ := below_get b9; (try simp only [heap_drew, World.size_alloc, World.size_setCell] at gc9 gf9); have s9 := below_via (w := w8) (by go_grown) b9; have H9 := below_via H8 s9; have hs9 := b9.size; (try simp at hs9); have z9_0 : w.heap.size < w9.heap.size := (by omega); have z9_1 : w6.heap.size < w9.heap.size := (by omega); clear b9)
        go_region_held3 (fun w' => w'.cell? ⟨w.heap.size, 0, none⟩ = some (.int .i64 num) ∧ w'.cell? ⟨w.heap.size, 1, none⟩ = some (.slice B m d) ∧ w'.cell? ⟨w6.heap.size, 0, none⟩ = some (.int .i64 num) ∧ w'.cell? ⟨w6.heap.size, 1, none⟩ = some (.slice A6 m c6)) (simp [go_sem, *])
          (first
           | (go_at_call 17; refine (toCall_c num B m d xs _ ((((((((((HQ.out.up s1).up s2).up s3).up s4).up s5).up s6).up s7).up s8).up s9).upB (by go_grown) (by go_size)) (by omega)).mono ?_; rintro e w10 ⟨A10, c10, rfl, hown10, b10⟩; obtain ⟨gc10, gf10⟩ := below_get b10; (try simp only [heap_drew, World.size_alloc, World.size_setCell] at gc10 gf10); have s10 := below_via (w := w9) (by go_grown) b10; have H10 := below_via H9 s10; have hs10 := b10.size; (try simp at hs10); have z10_0 : w.heap.size < w10.heap.size := (by omega); have z10_1 : w6.heap.size < w10.heap.size := (by omega); clear b10; have R10 := Lib.hid (Rd.of_own hown10); clear hown10)
           | (go_at_call 19; refine (eqCall_c num num A6 A10 m c6 m c10 xs xs _ (((((R6.out.up s7).up s8).up s9).up s10).upB (by go_grown) (by go_size)) (R10.out.upB (by go_grown) (by go_size)) hm hm).mono ?_; rintro e w11 ⟨rfl, b11⟩; obtain ⟨gc11, gf11⟩ := below_get b11; (try simp only [heap_drew, World.size_alloc, World.size_setCell] at gc11 gf11); have s11 := below_via (w := w10) (by go_grown) b11; have H11 := below_via H10 s11; have hs11 := b11.size; (try simp at hs11); have z11_0 : w.heap.size < w11.heap.size := (by omega); have z11_1 : w6.heap.size < w11.heap.size := (by omega); clear b11))
        go_wp2
        go_returns
        exact ⟨rfl, by go_grown⟩
    · go_enter Try.func9, Try.ntmps9
      go_wp2_with (first
        | (go_at_call 20; refine (szPointS_in A n c _ _ hn (by omega) (by omega)).mono ?_; rintro e w' ⟨rfl, rfl⟩)
        | (go_at_call 15; refine (szCall_c num B m d (1048576 - n) _ hm (by omega) (by omega)).mono ?_; rintro e w1 ⟨rfl, b1⟩; obtain ⟨gc1, gf1⟩ := below_get b1; (try simp only [heap_drew, World.size_alloc, World.size_setCell] at gc1 gf1); have s1 := below_via (w := w) (by go_grown) b1; have H1 := s1; have hs1 := b1.size; (try simp at hs1); have z1_0 : w.heap.size < w1.heap.size := (by omega); clear b1))
      · go_returns
        exact ⟨rfl, by go_grown⟩
      · exfalso
        rename (0 ≤ szV _ _) => h
        simp [szV] at h; split at h <;> omega
  · go_enter Try.func9, Try.ntmps9
    go_wp2_with (go_at_call 20; refine (szPointS_c A n c _ _ hn (by omega) (by omega)).mono ?_; rintro e w' ⟨rfl, rfl⟩)
    · go_returns
      exact ⟨rfl, by go_grown⟩
    · exfalso
      rename (0 ≤ szV _ _) => h
      simp [szV] at h; split at h <;> omega
theorem fnExactGraphRun_w (v0 v1 : Value) (W : World) (h0 : IsPointS W v0) (h1 : IsCall W v1) : Calls Try.prog 9 #[v0, v1] W (RetB (.bool true) W) := by
  obtain ⟨A, n, c, ps, rfl, hr, hn⟩ := h0
  obtain ⟨num, B, m, d, xs, rfl, hq, hm⟩ := h1
  exact graphRun_law A n c ps num B m d xs W hr (by unfold maxLen at hn; omega) hq (by unfold maxLen at hm; omega)
set_option maxRecDepth 100000 in
theorem fnExactGraphRun_lifted (os : Os) (started : os.Started) (H : Type) (enc : TypeId × Value → H) :
    ReturnsInHanded {} Try.checked os 9 .any (Rows.fnExactGraphRunSpec.pre6 enc Try.prog Try.f9 Rows.fnExactGraphRunRow.domain false) (Rows.fnExactGraphRunSpec.post enc Try.prog Try.f9 false true false false) := by
  refine returnsInHanded_of_change (C := Try.checked) own started (by kernel_rfl) Try.func9
    (ChangeSpec.witness6 (enc := enc) (C := Try.checked) false ⟨#[], #[.slice none 0 0, .agg #[.int .i64 0, .slice none 0 0]], []⟩ 8 (by kernel_rfl) (by kernel_rfl) (by kernel_rfl) (by kernel_rfl)) ?_
  intro W base args ds gs before hval0 hW hcnd _
  have hval : ∀ (j : Nat) t v, Try.f9.params[j]? = some t → args[j]? = some v → Value.okWide Try.prog W .any base t v := hval0
  have hW' := hW
  obtain ⟨p, q, hA0, hV, rfl, hfz, hnd⟩ := hW
  have hA : DataW.TrodAll enc Try.prog W 0 (fun _ => true) true Try.f9.params.toList args.toList ds p := hA0
  rw [Try.params9] at hA hval
  obtain ⟨v0, vs0, d0, ds0, p0, q0, hargs, rfl, rfl, h0, r0⟩ := trodAll_cons hA
  obtain ⟨v1, vs1, d1, ds1, p1, q1, rfl, rfl, rfl, h1, r1⟩ := trodAll_cons r0
  obtain ⟨rfl, rfl, rfl⟩ := trodAll_nil r1
  obtain rfl : args = #[v0, v1] := by cases args; simp_all
  obtain ⟨rfl, rfl⟩ := trodVars_none hV
  have k0 := h0
  have lt0 : ∀ x ∈ p0, x.block < W.heap.size := by obtain ⟨m, hm⟩ := k0; exact DataW.trod_lt m _ _ _ hm
  have o0 := open_PointS (hval 0 39 v0 rfl rfl) h0
  have k1 := h1
  have lt1 : ∀ x ∈ p1, x.block < W.heap.size := by obtain ⟨m, hm⟩ := k1; exact DataW.trod_lt m _ _ _ hm
  have o1 := open_Call (hval 1 32 v1 rfl rfl) h1
  clear hA0 hval0
  refine (fnExactGraphRun_w v0 v1 W o0 o1).mono fun e W' ⟨he, bel⟩ => ?_
  subst he
  exact ⟨_, rfl, _, _, _, [], _, [], hW', trodAll_mk1 (shut_bool Try.underlying4 _), (trodAll_cons_mk (Below.trod laidOut (by kernel_rfl) (of_decide_eq_true (by kernel_rfl)) k0 bel lt0) (trodAll_cons_mk (Below.trod laidOut (by kernel_rfl) (of_decide_eq_true (by kernel_rfl)) k1 bel lt1) trodAll_mk0)), rfl, bel.frame _, fun h => by cases h⟩

theorem fnExactGraphRun_holds : Rows.FnExactGraphRunSaid :=
  OpenClaim.holds_of_wide 9 Try.f9 rfl rfl rfl rfl rfl rfl rfl ⟨rfl, rfl, rfl, rfl, rfl⟩ rfl rfl rfl rfl rfl (by kernel_rfl) Try.func9 (by kernel_rfl)
    (of_decide_eq_true (by kernel_rfl)) (by unfold Func.isWrapper; rw [if_neg (of_decide_eq_false (by kernel_rfl))]; exact ⟨rfl, rfl⟩)
    (fun os started H enc _ => fnExactGraphRun_lifted os started H enc)
#print axioms fnExactGraphRun_holds
end Go.Proofs.Ytbijlencoilchaa
