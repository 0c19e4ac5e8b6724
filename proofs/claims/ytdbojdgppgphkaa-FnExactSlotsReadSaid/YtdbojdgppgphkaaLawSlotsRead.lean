/- FnExactSlotsRead: for all slots the law returns true. No condition. -/
import Derived.Test.YtdbojdgppgphkaaSlotOpen
namespace Go.Proofs.Ytdbojdgppgphkaa
set_option linter.unusedSimpArgs false
open Go.ChangeShapes Go.WideShapes Go.ChangeAt Go.RowKit
set_option linter.unusedVariables false
set_option maxHeartbeats 800000 in
theorem fnExactSlotsRead_w (v0 : Value) (w : World) (h0 : IsSlots w v0) : Calls Try.prog 3 #[v0] w (RetB (.bool true) w) := by
  obtain ⟨A, B, rfl, hA, hB⟩ := h0
  unfold maxLen at hA hB
  have HZ := Lib.hid (fun W => szSlots_c A B (by omega) (by omega) W)
  have HT := Lib.hid (fun W => toSlots_c A B W)
  by_cases hs : A.size + B.size ≤ 1048576
  · rw [if_pos hs] at HZ
    have ea := str_of A
    have eb := str_of B
    have la : A.data.toList.length = A.size := rfl
    have lb : B.data.toList.length = B.size := rfl
    have HS := Lib.hid (fun W => specSlotsRead_c A.data.toList B.data.toList (by omega) (by omega) W)
    have HI := Lib.hid (fun W => slotsRead_c A.data.toList B.data.toList (by omega) (by omega) W)
    rw [ea, eb] at HS HI
    clear ea eb la lb
    generalize (lastR A.data.toList B.data.toList).1 = s at *
    generalize (lastR A.data.toList B.data.toList).2.1 = n at *
    generalize str s = S at *
    have hz : (0 : Int) ≤ 1048576 - (A.size : Int) - (B.size : Int) := by omega
    generalize (1048576 - (A.size : Int) - (B.size : Int)) = z at *
    clear hs hA hB
    go_enter Try.func3, Try.ntmps3
    (go_wp2_with fail); (go_at_call 4; refine (HZ.out _).mono ?_; rintro e w1 ⟨rfl, b1⟩; obtain ⟨gc1, gf1⟩ := below_get b1; (try simp only [heap_drew, World.size_alloc, World.size_setCell] at gc1 gf1); have s1 := below_via (w := w) (by go_grown) b1; have H1 := s1; have hs1 := b1.size; (try simp at hs1); have z1_0 : w.heap.size < w1.heap.size := (by omega); clear b1)
    (go_wp2_with fail); (go_at_call 6; refine (HT.out _).mono ?_; rintro e w2 ⟨rfl, b2⟩; obtain ⟨gc2, gf2⟩ := below_get b2; (try simp only [heap_drew, World.size_alloc, World.size_setCell] at gc2 gf2); have s2 := below_via (w := w1) (by go_grown) b2; have H2 := below_via H1 s2; have hs2 := b2.size; (try simp at hs2); have z2_0 : w.heap.size < w2.heap.size := (by omega); clear b2)
    (go_wp2_with fail); (go_at_call 5; refine (HS.out _).mono ?_; rintro e w3 ⟨rfl, b3⟩; obtain ⟨gc3, gf3⟩ := below_get b3; (try simp only [heap_drew, World.size_alloc, World.size_setCell] at gc3 gf3); have s3 := below_via (w := w2) (by go_grown) b3; have H3 := below_via H2 s3; have hs3 := b3.size; (try simp at hs3); have z3_0 : w.heap.size < w3.heap.size := (by omega); clear b3)
    (go_wp2_with fail); (go_at_call 6; refine (HT.out _).mono ?_; rintro e w4 ⟨rfl, b4⟩; obtain ⟨gc4, gf4⟩ := below_get b4; (try simp only [heap_drew, World.size_alloc, World.size_setCell] at gc4 gf4); have s4 := below_via (w := w3) (by go_grown) b4; have H4 := below_via H3 s4; have hs4 := b4.size; (try simp at hs4); have z4_0 : w.heap.size < w4.heap.size := (by omega); clear b4)
    (go_wp2_with fail); (go_at_call 7; refine (HI.out _).mono ?_; rintro e w5 ⟨rfl, b5⟩; obtain ⟨gc5, gf5⟩ := below_get b5; (try simp only [heap_drew, World.size_alloc, World.size_setCell] at gc5 gf5); have s5 := below_via (w := w4) (by go_grown) b5; have H5 := below_via H4 s5; have hs5 := b5.size; (try simp at hs5); have z5_0 : w.heap.size < w5.heap.size := (by omega); clear b5)
    go_wp2
    go_returns
    exact ⟨rfl, by go_grown⟩
  · rw [if_neg hs] at HZ
    clear hs hA hB HT
    go_enter Try.func3, Try.ntmps3
    (go_wp2_with fail); (go_at_call 4; refine (HZ.out _).mono ?_; rintro e w1 ⟨rfl, b1⟩; obtain ⟨gc1, gf1⟩ := below_get b1; (try simp only [heap_drew, World.size_alloc, World.size_setCell] at gc1 gf1); have s1 := below_via (w := w) (by go_grown) b1; have H1 := s1; have hs1 := b1.size; (try simp at hs1); have z1_0 : w.heap.size < w1.heap.size := (by omega); clear b1)
    go_wp2
    go_returns
    exact ⟨rfl, by go_grown⟩
set_option maxRecDepth 100000 in
theorem fnExactSlotsRead_lifted (os : Os) (started : os.Started) (H : Type) (enc : TypeId × Value → H) :
    ReturnsInHanded {} Try.checked os 3 .any (Rows.fnExactSlotsReadSpec.pre6 enc Try.prog Try.f3 Rows.fnExactSlotsReadRow.domain false) (Rows.fnExactSlotsReadSpec.post enc Try.prog Try.f3 false true false false) := by
  refine returnsInHanded_of_change (C := Try.checked) own started (by kernel_rfl) Try.func3
    (ChangeSpec.witness6 (enc := enc) (C := Try.checked) false ⟨#[], #[.agg #[.string ByteArray.empty, .string ByteArray.empty]], []⟩ 8 (by kernel_rfl) (by kernel_rfl) (by kernel_rfl) (by kernel_rfl)) ?_
  intro W base args ds gs before hval0 hW hcnd _
  have hval : ∀ (j : Nat) t v, Try.f3.params[j]? = some t → args[j]? = some v → Value.okWide Try.prog W .any base t v := hval0
  have hW' := hW
  obtain ⟨p, q, hA0, hV, rfl, hfz, hnd⟩ := hW
  have hA : DataW.TrodAll enc Try.prog W 0 (fun _ => true) true Try.f3.params.toList args.toList ds p := hA0
  rw [Try.params3] at hA hval
  obtain ⟨v0, vs0, d0, ds0, p0, q0, hargs, rfl, rfl, h0, r0⟩ := trodAll_cons hA
  obtain ⟨rfl, rfl, rfl⟩ := trodAll_nil r0
  obtain rfl : args = #[v0] := by cases args; simp_all
  obtain ⟨rfl, rfl⟩ := trodVars_none hV
  have k0 := h0
  have lt0 : ∀ x ∈ p0, x.block < W.heap.size := by obtain ⟨m, hm⟩ := k0; exact DataW.trod_lt m _ _ _ hm
  have o0 := open_Slots (hval 0 23 v0 rfl rfl) h0
  clear hA0 hval0
  refine (fnExactSlotsRead_w v0 W o0).mono fun e W' ⟨he, bel⟩ => ?_
  subst he
  exact ⟨_, rfl, _, _, _, [], _, [], hW', trodAll_mk1 (shut_bool Try.underlying4 _), (trodAll_cons_mk (Below.trod laidOut (by kernel_rfl) (of_decide_eq_true (by kernel_rfl)) k0 bel lt0) trodAll_mk0), rfl, bel.frame _, fun h => by cases h⟩

theorem fnExactSlotsRead_holds : Rows.FnExactSlotsReadSaid :=
  OpenClaim.holds_of_wide 3 Try.f3 rfl rfl rfl rfl rfl rfl rfl ⟨rfl, rfl, rfl, rfl, rfl⟩ rfl rfl rfl rfl rfl (by kernel_rfl) Try.func3 (by kernel_rfl)
    (of_decide_eq_true (by kernel_rfl)) (by unfold Func.isWrapper; rw [if_neg (of_decide_eq_false (by kernel_rfl))]; exact ⟨rfl, rfl⟩)
    (fun os started H enc _ => fnExactSlotsRead_lifted os started H enc)
#print axioms fnExactSlotsRead_holds
end Go.Proofs.Ytdbojdgppgphkaa
