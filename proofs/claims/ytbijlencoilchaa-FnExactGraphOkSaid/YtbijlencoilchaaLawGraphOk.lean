/- FnExactGraphOk: for all points the law returns true and leaves its argument as it was. No condition. -/
import Derived.Test.YtbijlencoilchaaOpen2
import Derived.Test.YtbijlencoilchaaGraph2
import Derived.Test.YtbijlencoilchaaPoint
namespace Go.Proofs.Ytbijlencoilchaa
open Go.ChangeShapes Go.WideShapes Go.ChangeAt Go.RowKit
set_option linter.unusedVariables false
theorem graphOk_law (A : Option Addr) (n c : Nat) (ps : List Pt) (w : World) (hr : Rd w w.heap.size 7 A n (pts ps)) (hn : n ≤ 9223372036854775807) :
    Calls Try.prog 6 #[.slice A n c] w (RetB (.bool true) w) := by
  have HR := Lib.hid hr
  clear hr
  by_cases hbig : n ≤ 1048576
  · go_enter Try.func6, Try.ntmps6
    go_wp2_with (go_at_call 20; refine (szPointS_c A n c _ _ hn (by omega) (by omega)).mono ?_; rintro e w' ⟨rfl, rfl⟩)
    · exfalso
      rename (szV _ _ < 0) => h
      simp [szV] at h; omega
    · rename (0 ≤ szV _ _) => h; clear h
      go_wp2_with (go_at_call 22; refine (toPointS_c A n c ps _ (HR.out.upB (by go_grown) (by go_size)) hbig).mono ?_; rintro e w1 ⟨A1, c1, rfl, hown, b1⟩; obtain ⟨gc1, gf1⟩ := below_get b1; (try simp only [heap_drew, World.size_alloc, World.size_setCell] at gc1 gf1); have s1 := below_via (w := w) (by go_grown) b1; have H1 := s1; have hs1 := b1.size; (try simp at hs1); clear b1; have R1 := Lib.hid (Rd.of_own hown); clear hown)
      go_wp2_with (go_at_call 21; refine (specGraphOk_c A1 n c1 ps _ (R1.out.upB (by go_grown) (by go_size)) hn).mono ?_; rintro e w2 ⟨rfl, b2⟩; obtain ⟨gc2, gf2⟩ := below_get b2; (try simp only [heap_drew, World.size_alloc, World.size_setCell] at gc2 gf2); have s2 := below_via (w := w1) (by go_grown) b2; have H2 := below_via H1 s2; have hs2 := b2.size; (try simp at hs2); clear b2)
      go_wp2_with (go_at_call 22; refine (toPointS_c A n c ps _ (((HR.out.up s1).up s2).upB (by go_grown) (by go_size)) hbig).mono ?_; rintro e w3 ⟨A3, c3, rfl, hown, b3⟩; obtain ⟨gc3, gf3⟩ := below_get b3; (try simp only [heap_drew, World.size_alloc, World.size_setCell] at gc3 gf3); have s3 := below_via (w := w2) (by go_grown) b3; have H3 := below_via H2 s3; have hs3 := b3.size; (try simp at hs3); clear b3; have R3 := Lib.hid (Rd.of_own hown); clear hown)
      go_wp2_with (go_at_call 23; refine (graphOk_c A3 n c3 ps _ (R3.out.upB (by go_grown) (by go_size)) hn).mono ?_; rintro e w4 ⟨rfl, b4⟩; obtain ⟨gc4, gf4⟩ := below_get b4; (try simp only [heap_drew, World.size_alloc, World.size_setCell] at gc4 gf4); have s4 := below_via (w := w3) (by go_grown) b4; have H4 := below_via H3 s4; have hs4 := b4.size; (try simp at hs4); clear b4)
      go_wp2_with (go_at_call 22; refine (toPointS_c A n c ps _ (((((HR.out.up s1).up s2).up s3).up s4).upB (by go_grown) (by go_size)) hbig).mono ?_; rintro e w5 ⟨A5, c5, rfl, hown, b5⟩; obtain ⟨gc5, gf5⟩ := below_get b5; (try simp only [heap_drew, World.size_alloc, World.size_setCell] at gc5 gf5); have s5 := below_via (w := w4) (by go_grown) b5; have H5 := below_via H4 s5; have hs5 := b5.size; (try simp at hs5); clear b5; have R5 := Lib.hid (Rd.of_own hown); clear hown)
      go_wp2_with (go_at_call 24; refine (eqPointS_c A3 A5 n c3 n c5 ps ps _ (((R3.out.up s4).up s5).upB (by go_grown) (by go_size)) (R5.out.upB (by go_grown) (by go_size)) hn hn).mono ?_; rintro e w6 ⟨rfl, b6⟩; obtain ⟨gc6, gf6⟩ := below_get b6; (try simp only [heap_drew, World.size_alloc, World.size_setCell] at gc6 gf6); have s6 := below_via (w := w5) (by go_grown) b6; have H6 := below_via H5 s6; have hs6 := b6.size; (try simp at hs6); clear b6)
      go_returns
      exact ⟨rfl, by go_grown⟩
  · go_enter Try.func6, Try.ntmps6
    go_wp2_with (go_at_call 20; refine (szPointS_c A n c _ _ hn (by omega) (by omega)).mono ?_; rintro e w' ⟨rfl, rfl⟩)
    · go_returns
      exact ⟨rfl, by go_grown⟩
    · exfalso
      rename (0 ≤ szV _ _) => h
      simp [szV] at h; split at h <;> omega
theorem fnExactGraphOk_w (v0 : Value) (W : World) (h0 : IsPointS W v0) : Calls Try.prog 6 #[v0] W (RetB (.bool true) W) := by
  obtain ⟨A, n, c, ps, rfl, hr, hn⟩ := h0
  exact graphOk_law A n c ps W hr (by unfold maxLen at hn; omega)
set_option maxRecDepth 100000 in
theorem fnExactGraphOk_lifted (os : Os) (started : os.Started) (H : Type) (enc : TypeId × Value → H) :
    ReturnsInHanded {} Try.checked os 6 .any (Rows.fnExactGraphOkSpec.pre6 enc Try.prog Try.f6 Rows.fnExactGraphOkRow.domain false) (Rows.fnExactGraphOkSpec.post enc Try.prog Try.f6 false true false false) := by
  refine returnsInHanded_of_change (C := Try.checked) own started (by kernel_rfl) Try.func6
    (ChangeSpec.witness6 (enc := enc) (C := Try.checked) false ⟨#[], #[.slice none 0 0], []⟩ 8 (by kernel_rfl) (by kernel_rfl) (by kernel_rfl) (by kernel_rfl)) ?_
  intro W base args ds gs before hval0 hW hcnd _
  have hval : ∀ (j : Nat) t v, Try.f6.params[j]? = some t → args[j]? = some v → Value.okWide Try.prog W .any base t v := hval0
  have hW' := hW
  obtain ⟨p, q, hA0, hV, rfl, hfz, hnd⟩ := hW
  have hA : DataW.TrodAll enc Try.prog W 0 (fun _ => true) true Try.f6.params.toList args.toList ds p := hA0
  rw [Try.params6] at hA hval
  obtain ⟨v0, vs0, d0, ds0, p0, q0, hargs, rfl, rfl, h0, r0⟩ := trodAll_cons hA
  obtain ⟨rfl, rfl, rfl⟩ := trodAll_nil r0
  obtain rfl : args = #[v0] := by cases args; simp_all
  obtain ⟨rfl, rfl⟩ := trodVars_none hV
  have k0 := h0
  have lt0 : ∀ x ∈ p0, x.block < W.heap.size := by obtain ⟨m, hm⟩ := k0; exact DataW.trod_lt m _ _ _ hm
  have o0 := open_PointS (hval 0 39 v0 rfl rfl) h0
  clear hA0 hval0
  refine (fnExactGraphOk_w v0 W o0).mono fun e W' ⟨he, bel⟩ => ?_
  subst he
  exact ⟨_, rfl, _, _, _, [], _, [], hW', trodAll_mk1 (shut_bool Try.underlying4 _), (trodAll_cons_mk (Below.trod laidOut (by kernel_rfl) (of_decide_eq_true (by kernel_rfl)) k0 bel lt0) trodAll_mk0), rfl, bel.frame _, fun h => by cases h⟩

theorem fnExactGraphOk_holds : Rows.FnExactGraphOkSaid :=
  OpenClaim.holds_of_wide 6 Try.f6 rfl rfl rfl rfl rfl rfl rfl ⟨rfl, rfl, rfl, rfl, rfl⟩ rfl rfl rfl rfl rfl (by kernel_rfl) Try.func6 (by kernel_rfl)
    (of_decide_eq_true (by kernel_rfl)) (by unfold Func.isWrapper; rw [if_neg (of_decide_eq_false (by kernel_rfl))]; exact ⟨rfl, rfl⟩)
    (fun os started H enc _ => fnExactGraphOk_lifted os started H enc)
#print axioms fnExactGraphOk_holds
end Go.Proofs.Ytbijlencoilchaa
