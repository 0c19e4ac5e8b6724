/- FnExactSlotsTorn: for all slots, texts and numbers the law returns true. The tables are tied to the program's text. No condition. -/
import Derived.Test.YtdbojdgppgphkaaDoorSlotTied
import Derived.Test.YtdbojdgppgphkaaDoorSlot8
import Derived.Test.YtdbojdgppgphkaaDoorSlot9
namespace Go.Proofs.YtdbojdgppgphkaaDoor
set_option linter.unusedSimpArgs false
open Go.ChangeShapes Go.WideShapes Go.ChangeAt Go.RowKit
set_option linter.unusedVariables false
set_option maxHeartbeats 1600000 in
theorem fnExactSlotsTorn_w (v0 v1 v2 : Value) (w : World) (h0 : IsSlots w v0) (h1 : IsStr w v1) (h2 : IsInt w v2) (hK : PT w w.heap.size) : Calls Tryd.prog 9 #[v0, v1, v2] w (RetB (.bool true) w) := by
  obtain ⟨A, B, rfl, hA, hB⟩ := h0
  obtain ⟨T, rfl, hT⟩ := h1
  obtain ⟨n0, rfl, hlo, hhi⟩ := h2
  unfold maxLen at hA hB hT
  have HP := Lib.hid hK
  clear hK
  have HZ := Lib.hid (fun W => szSlots_c A B (by omega) (by omega) W)
  have HT := Lib.hid (fun W => toSlots_c A B W)
  by_cases ht : T.size ≤ 1048576
  · by_cases hs : A.size + B.size ≤ 1048576
    · rw [if_pos hs] at HZ
      have ea := str_of A
      have eb := str_of B
      have et := str_of T
      have la : A.data.toList.length = A.size := rfl
      have lb : B.data.toList.length = B.size := rfl
      have lt : T.data.toList.length = T.size := rfl
      have HS := Lib.hid (fun W => specSlotsTorn_c A.data.toList B.data.toList T.data.toList n0 (by omega) (by omega) (by omega) W)
      have HI := Lib.hid (fun W hp => slotsTorn_c A.data.toList B.data.toList T.data.toList n0 (by omega) (by omega) (by omega) (by omega) W hp)
      rw [ea, eb, et] at HS HI
      clear ea eb et la lb lt
      generalize tornR A.data.toList B.data.toList T.data.toList n0 = R at *
      obtain ⟨r1, r2⟩ := R
      simp only at HS HI
      generalize str r1 = R1 at *
      generalize str r2 = R2 at *
      have HE := Lib.hid (fun W => eqSlots_c R1 R2 W)
      have hz : (0 : Int) ≤ 1048576 - (A.size : Int) - (B.size : Int) := by omega
      generalize (1048576 - (A.size : Int) - (B.size : Int)) = z at *
      clear hs hA hB
      go_enter Tryd.func9, Tryd.ntmps9
      (go_wp2_with fail); (go_at_call 34; refine (HZ.out _).mono ?_; rintro e w1 ⟨rfl, b1⟩; obtain ⟨gc1, gf1⟩ := below_get b1; (try simp only [heap_drew, World.size_alloc, World.size_setCell] at gc1 gf1); have s1 := below_via (w := w) (by go_grown) b1; have H1 := s1; have hs1 := b1.size; (try simp at hs1); have z1_0 : w.heap.size < w1.heap.size := (by omega); clear b1)
      (go_wp2_with fail); (go_at_call 36; refine (HT.out _).mono ?_; rintro e w2 ⟨rfl, b2⟩; obtain ⟨gc2, gf2⟩ := below_get b2; (try simp only [heap_drew, World.size_alloc, World.size_setCell] at gc2 gf2); have s2 := below_via (w := w1) (by go_grown) b2; have H2 := below_via H1 s2; have hs2 := b2.size; (try simp at hs2); have z2_0 : w.heap.size < w2.heap.size := (by omega); clear b2)
      (go_wp2_with fail); (go_at_call 39; refine (HS.out _).mono ?_; rintro e w3 ⟨rfl, b3⟩; obtain ⟨gc3, gf3⟩ := below_get b3; (try simp only [heap_drew, World.size_alloc, World.size_setCell] at gc3 gf3); have s3 := below_via (w := w2) (by go_grown) b3; have H3 := below_via H2 s3; have hs3 := b3.size; (try simp at hs3); have z3_0 : w.heap.size < w3.heap.size := (by omega); clear b3)
      (go_wp2_with fail); (go_at_call 36; refine (HT.out _).mono ?_; rintro e w4 ⟨rfl, b4⟩; obtain ⟨gc4, gf4⟩ := below_get b4; (try simp only [heap_drew, World.size_alloc, World.size_setCell] at gc4 gf4); have s4 := below_via (w := w3) (by go_grown) b4; have H4 := below_via H3 s4; have hs4 := b4.size; (try simp at hs4); have z4_0 : w.heap.size < w4.heap.size := (by omega); have z4_1 : w3.heap.size < w4.heap.size := (by omega); clear b4)
      (go_wp2_with fail); (go_at_call 40; refine (HI.out _ (HP.out.upS H4 (by omega))).mono ?_; rintro e w5 ⟨rfl, b5⟩; obtain ⟨gc5, gf5⟩ := below_get b5; (try simp only [heap_drew, World.size_alloc, World.size_setCell] at gc5 gf5); have s5 := below_via (w := w4) (by go_grown) b5; have H5 := below_via H4 s5; have hs5 := b5.size; (try simp at hs5); have z5_0 : w.heap.size < w5.heap.size := (by omega); have z5_1 : w3.heap.size < w5.heap.size := (by omega); clear b5)
      (go_wp2_with fail); (go_at_call 38; refine (HE.out _).mono ?_; rintro e w6 ⟨rfl, b6⟩; obtain ⟨gc6, gf6⟩ := below_get b6; (try simp only [heap_drew, World.size_alloc, World.size_setCell] at gc6 gf6); have s6 := below_via (w := w5) (by go_grown) b6; have H6 := below_via H5 s6; have hs6 := b6.size; (try simp at hs6); have z6_0 : w.heap.size < w6.heap.size := (by omega); clear b6)
      go_wp2
      go_returns
      exact ⟨rfl, by go_grown⟩
    · rw [if_neg hs] at HZ
      clear hs hA hB HT
      go_enter Tryd.func9, Tryd.ntmps9
      (go_wp2_with fail); (go_at_call 34; refine (HZ.out _).mono ?_; rintro e w1 ⟨rfl, b1⟩; obtain ⟨gc1, gf1⟩ := below_get b1; (try simp only [heap_drew, World.size_alloc, World.size_setCell] at gc1 gf1); have s1 := below_via (w := w) (by go_grown) b1; have H1 := s1; have hs1 := b1.size; (try simp at hs1); have z1_0 : w.heap.size < w1.heap.size := (by omega); clear b1)
      go_wp2
      go_returns
      exact ⟨rfl, by go_grown⟩
  · clear HZ HT hA hB
    go_enter Tryd.func9, Tryd.ntmps9
    go_wp2
    go_returns
    exact ⟨rfl, by go_grown⟩
set_option maxRecDepth 100000 in
theorem fnExactSlotsTorn_lifted (os : Os) (started : os.Started) (H : Type) (enc : TypeId × Value → H) :
    ReturnsInHanded {} Tryd.checked os 9 .any (fun w args => (Rows.fnExactSlotsTornSpec.pre enc Tryd.prog Tryd.f9 [] false w args ∧ laidMetH Tryd.prog Rows.fnExactSlotsTornRow.laid w) ∧ sizedMet enc Tryd.prog Tryd.f9 (OpenSpec.ofChange Rows.fnExactSlotsTornSpec) false w args)
      (Rows.fnExactSlotsTornSpec.post enc Tryd.prog Tryd.f9 false true false false) := by
  refine returnsInHanded_of_change_and (C := Tryd.checked) (X := fun w _ => laidMetH Tryd.prog Rows.fnExactSlotsTornRow.laid w) (fun _ _ _ hh h => h.of_heap hh) own started (by kernel_rfl) Tryd.func9
    (ChangeSpec.witness_shaped (enc := enc) (C := Tryd.checked) (os := os) (X := fun w _ => laidMetH Tryd.prog Rows.fnExactSlotsTornRow.laid w) false (World.doorLaid Tryd.prog 400 os) #[.agg #[.string ByteArray.empty, .string ByteArray.empty], .string ByteArray.empty, .int .i64 0] 8 rfl (World.shaped_of_RefB (by kernel_rfl) (by kernel_rfl)) (by kernel_rfl) (by kernel_rfl) (by kernel_rfl) (laid_met os _)) ?_
  intro W base args ds gs before hval0 hW _ _ hL _
  have hval : ∀ (j : Nat) t v, Tryd.f9.params[j]? = some t → args[j]? = some v → Value.okWide Tryd.prog W .any base t v := hval0
  have hW' := hW
  obtain ⟨p, q, hA0, hV, rfl, hfz, hnd⟩ := hW
  have hA : DataW.TrodAll enc Tryd.prog W 0 (fun _ => true) true Tryd.f9.params.toList args.toList ds p := hA0
  rw [Tryd.params9] at hA hval
  obtain ⟨v0, vs0, d0, ds0, p0, q0, hargs, rfl, rfl, h0, r0⟩ := trodAll_cons hA
  obtain ⟨v1, vs1, d1, ds1, p1, q1, rfl, rfl, rfl, h1, r1⟩ := trodAll_cons r0
  obtain ⟨v2, vs2, d2, ds2, p2, q2, rfl, rfl, rfl, h2, r2⟩ := trodAll_cons r1
  obtain ⟨rfl, rfl, rfl⟩ := trodAll_nil r2
  obtain rfl : args = #[v0, v1, v2] := by cases args; simp_all
  obtain ⟨rfl, rfl⟩ := trodVars_none hV
  have k0 := h0
  have lt0 : ∀ x ∈ p0, x.block < W.heap.size := by obtain ⟨m, hm⟩ := k0; exact DataW.trod_lt m _ _ _ hm
  have o0 := open_Slots (hval 0 51 v0 rfl rfl) h0
  have k1 := h1
  have lt1 : ∀ x ∈ p1, x.block < W.heap.size := by obtain ⟨m, hm⟩ := k1; exact DataW.trod_lt m _ _ _ hm
  have o1 := open_Str (hval 1 9 v1 rfl rfl) h1
  have k2 := h2
  have lt2 : ∀ x ∈ p2, x.block < W.heap.size := by obtain ⟨m, hm⟩ := k2; exact DataW.trod_lt m _ _ _ hm
  have o2 := open_Int (hval 2 3 v2 rfl rfl) h2
  clear hA0 hval0
  refine (fnExactSlotsTorn_w v0 v1 v2 W o0 o1 o2 (pt_of_laid hL)).mono fun e W' ⟨he, bel⟩ => ?_
  subst he
  exact ⟨_, rfl, _, _, _, [], _, [], hW', trodAll_mk1 (shut_bool Tryd.underlying4 _), (trodAll_cons_mk (Below.trod laidOut (by kernel_rfl) (of_decide_eq_true (by kernel_rfl)) k0 bel lt0) (trodAll_cons_mk (Below.trod laidOut (by kernel_rfl) (of_decide_eq_true (by kernel_rfl)) k1 bel lt1) (trodAll_cons_mk (Below.trod laidOut (by kernel_rfl) (of_decide_eq_true (by kernel_rfl)) k2 bel lt2) trodAll_mk0))), rfl, bel.frame _, fun h => by cases h⟩

theorem fnExactSlotsTorn_holds : Rows.FnExactSlotsTornSaid :=
  OpenClaim.holds_of_wide 9 Tryd.f9 rfl rfl rfl rfl rfl rfl rfl ⟨rfl, rfl, rfl, rfl, rfl⟩ rfl rfl rfl rfl rfl (by kernel_rfl) Tryd.func9 (by kernel_rfl)
    (of_decide_eq_true (by kernel_rfl)) (by unfold Func.isWrapper; rw [if_neg (of_decide_eq_false (by kernel_rfl))]; exact ⟨rfl, rfl⟩)
    (fun os started H enc _ => fnExactSlotsTorn_lifted os started H enc)
theorem fnExactSlotsTorn_card : Rows.FnExactSlotsTornCardSaid :=
  Claim7.holds_tied_plain_at .later [] [.data, .data, .data] true (true, "b121fac4b65e6596d7006fcc74cc60828f861e55e109e0c6baaf5907fcd27632") true
    fnExactSlotsTorn_holds (fun _ h => by cases h) (by kernel_rfl) (fun _ h => by cases h) fnExactSlotsTorn_row_tie rfl ⟨rfl, rfl⟩ (by kernel_rfl) rfl
    (fun f fn hf hfn => by
      obtain rfl : f = 9 := Option.some.inj ((show Tryd.prog.funcNamed "loop.example/gatelodge/laws.FnExactSlotsTorn" = some 9 by kernel_rfl).symm.trans hf) |>.symm
      obtain rfl : fn = Tryd.f9 := (Option.some.inj (Tryd.func9.symm.trans hfn)).symm
      exact ⟨by kernel_rfl, fun j t ht => by
        rw [Tryd.params9] at ht
        have hm : t ∈ [51, 9, 3] := by simpa using Array.mem_of_getElem? ht
        have hall : ([51, 9, 3].all fun u => !Tryd.prog.wantsStandIn u) = true := by kernel_rfl
        exact (show Tryd.prog.wantsStandIn t = false by simpa using List.all_eq_true.1 hall t hm)⟩)
    (by kernel_rfl)
#print axioms fnExactSlotsTorn_card
end Go.Proofs.YtdbojdgppgphkaaDoor
