/- FnExactHashSum: for every text the law returns true; the listed table reads as it did. The table is tied to the program's text. No condition. -/
import Derived.Test.YtbijlencoilchaaDoorOpen
import Derived.Test.YtbijlencoilchaaDoorHashSum
import Derived.Test.YtbijlencoilchaaDoorTie
import Derived.Test.YtbijlencoilchaaDoorCards
import Derived.ChangeVars
import Derived.LaidMore
import Derived.OpenVars
import Derived.Stop.Joined
import Derived.SevenTiedAt
import Derived.Lib.LaidTab
namespace Go.Proofs.YtbijlencoilchaaDoor
open Go.ChangeShapes Go.WideShapes Go.ChangeAt Go.RowKit
set_option linter.unusedVariables false
theorem g_words : Tryd.prog.globalNamed "loop.example/gatelodge/impl.hashWords" = some 0 := by kernel_rfl
theorem words_tab {H : Type} : Rows.laid_loop_example_gatelodge_impl_hashWords (H := H) = Lib.tabData .u32 roundK := rfl
theorem kt_of_laid {W : World} (h : laidMetH Tryd.prog [("loop.example/gatelodge/impl.hashWords", Rows.laid_loop_example_gatelodge_impl_hashWords)] W) : KT W := by
  rw [MakeChecks.laidMetH_plain _ _ _ (by kernel_rfl), words_tab] at h
  have hT := Lib.tabIs_of_head (t := 62) (e := 43) (n := 64) g_words (by kernel_rfl) Tryd.underlying62 Tryd.underlying43 (by kernel_rfl) (by kernel_rfl) h
  exact fun i hi => hT.cell g_words i hi
theorem kt_pos {W : World} (h : KT W) : 0 < W.heap.size := World.block_lt_of_cell? W _ (h 0 (by omega))
theorem fnExactHashSum_w (v : Value) (w : World) (h : IsStr w v) (hK : KT w) : Calls Tryd.prog 3 #[v] w (RetB (.bool true) w) := by
  obtain ⟨s, rfl, hs⟩ := h
  have hz := kt_pos hK
  have HK := Lib.hid hK
  clear hK hs
  by_cases hbig : s.size ≤ 1048576
  · have HC1 := Lib.hid (specHashSum_c s (by omega))
    have HC2 := Lib.hid (fun w hK hz => hashSum_c s (by omega) w hK hz)
    generalize strOfNums (hexL (digest (bytesI s))) = X at *
    go_enter Tryd.func3, Tryd.ntmps3
    (go_wp2_with fail); (go_at_call 6; refine (HC1.out _).mono ?_; rintro e w1 ⟨rfl, b1⟩; obtain ⟨gc1, gf1⟩ := below_get b1; (try simp only [heap_drew, World.size_alloc, World.size_setCell] at gc1 gf1); have s1 := below_via (w := w) (by go_grown) b1; have H1 := s1; have hs1 := b1.size; (try simp at hs1); clear b1)
    (go_wp2_with fail); (go_at_call 7; refine (HC2.out _ (HK.out.up H1 hz) (by omega)).mono ?_; rintro e w2 ⟨rfl, b2⟩; obtain ⟨gc2, gf2⟩ := below_get b2; (try simp only [heap_drew, World.size_alloc, World.size_setCell] at gc2 gf2); have s2 := below_via (w := w1) (by go_grown) b2; have H2 := below_via H1 s2; have hs2 := b2.size; (try simp at hs2); clear b2)
    go_wp2
    go_returns
    exact ⟨rfl, by go_grown⟩
  · go_enter Tryd.func3, Tryd.ntmps3
    go_wp2
    go_returns
    exact ⟨rfl, by go_grown⟩
theorem fnExactHashSum_met (os : Os) (args : Array Value) : laidMetH Tryd.prog Rows.fnExactHashSumRow.laid ((World.doorLaid Tryd.prog 400 os).forCall (fun _ _ => 0) ⟨#[], args, []⟩).memory :=
  laidMetH_of_parts3 (fuel := 8) (laidMet_of_run' 8 (by kernel_rfl) (by kernel_rfl)) (by kernel_rfl) (by kernel_rfl)
set_option maxRecDepth 100000 in
theorem fnExactHashSum_lifted (os : Os) (started : os.Started) (H : Type) (enc : TypeId × Value → H) :
    ReturnsInHanded {} Tryd.checked os 3 .any (fun w args => (Rows.fnExactHashSumSpec.pre enc Tryd.prog Tryd.f3 [] false w args ∧ laidMetH Tryd.prog Rows.fnExactHashSumRow.laid w) ∧ sizedMet enc Tryd.prog Tryd.f3 (OpenSpec.ofChange Rows.fnExactHashSumSpec) false w args)
      (Rows.fnExactHashSumSpec.post enc Tryd.prog Tryd.f3 false true false false) := by
  refine returnsInHanded_of_change_and (C := Tryd.checked) (X := fun w _ => laidMetH Tryd.prog Rows.fnExactHashSumRow.laid w) (fun _ _ _ hh h => h.of_heap hh) own started (by kernel_rfl) Tryd.func3
    (ChangeSpec.witness_shaped (enc := enc) (C := Tryd.checked) (os := os) (X := fun w _ => laidMetH Tryd.prog Rows.fnExactHashSumRow.laid w) false (World.doorLaid Tryd.prog 400 os) #[.string ByteArray.empty] 8 rfl (World.shaped_of_RefB (by kernel_rfl) (by kernel_rfl)) (by kernel_rfl) (by kernel_rfl) (by kernel_rfl) (fnExactHashSum_met os _)) ?_
  intro W base args ds gs before hval0 hW _ _ hL _
  have hval : ∀ (j : Nat) t v, Tryd.f3.params[j]? = some t → args[j]? = some v → Value.okWide Tryd.prog W .any base t v := hval0
  have hW' := hW
  obtain ⟨p, q, hA0, hV, rfl, hfz, hnd⟩ := hW
  have hA : DataW.TrodAll enc Tryd.prog W 0 (fun _ => true) true Tryd.f3.params.toList args.toList ds p := hA0
  rw [Tryd.params3] at hA hval
  obtain ⟨v0, vs0, d0, ds0, p0, q0, hargs, rfl, rfl, h0, r0⟩ := trodAll_cons hA
  obtain ⟨rfl, rfl, rfl⟩ := trodAll_nil r0
  obtain rfl : args = #[v0] := by cases args; simp_all
  have hV2 := hV
  obtain ⟨gv, tv, cv, fv, dv, pv, rfl, _, _, _, _, rfl⟩ := trodVars_one hV2
  have k0 := h0
  have lt0 : ∀ x ∈ p0, x.block < W.heap.size := by obtain ⟨m, hm⟩ := k0; exact DataW.trod_lt m _ _ _ hm
  have o0 := open_Str (hval 0 9 v0 rfl rfl) h0
  clear hA0 hval0
  refine (fnExactHashSum_w v0 W o0 (kt_of_laid hL)).mono fun e W' ⟨he, bel⟩ => ?_
  subst he
  exact ⟨_, rfl, _, _, _, [], _, _, hW', trodAll_mk1 (shut_bool Tryd.underlying4 _), (trodAll_cons_mk (Below.trod laidOut (by kernel_rfl) (of_decide_eq_true (by kernel_rfl)) k0 bel lt0) trodAll_mk0), Below.trodVars laidOut bel (by kernel_rfl) hV, bel.frame _, fun h => by cases h⟩

theorem fnExactHashSum_holds : Rows.FnExactHashSumSaid :=
  OpenClaim.holds_of_wide 3 Tryd.f3 rfl rfl rfl rfl rfl rfl rfl ⟨rfl, rfl, rfl, rfl, rfl⟩ rfl rfl rfl rfl rfl (by kernel_rfl) Tryd.func3 (by kernel_rfl)
    (of_decide_eq_true (by kernel_rfl)) (by unfold Func.isWrapper; rw [if_neg (of_decide_eq_false (by kernel_rfl))]; exact ⟨rfl, rfl⟩)
    (fun os started H enc _ => fnExactHashSum_lifted os started H enc)
theorem fnExactHashSum_card : Rows.FnExactHashSumCardSaid :=
  Claim7.holds_tied_plain_at .later [] [.data] true (true, "ac90d3033e12c2a99792c4eaa1f366edd2f02fd8805178c71bac41f21071963d") false
    fnExactHashSum_holds (fun _ h => by cases h) (by kernel_rfl) (fun _ h => by cases h) fnExactHashSum_row_tie rfl ⟨rfl, rfl⟩ (by kernel_rfl) rfl
    (fun f fn hf hfn => by
      obtain rfl : f = 3 := Option.some.inj ((show Tryd.prog.funcNamed "loop.example/gatelodge/laws.FnExactHashSum" = some 3 by kernel_rfl).symm.trans hf) |>.symm
      obtain rfl : fn = Tryd.f3 := (Option.some.inj (Tryd.func3.symm.trans hfn)).symm
      exact ⟨by kernel_rfl, fun j t ht => by
        rw [Tryd.params3] at ht
        have hm : t ∈ [9] := by simpa using Array.mem_of_getElem? ht
        have hall : ([9].all fun u => !Tryd.prog.wantsStandIn u) = true := by kernel_rfl
        exact (show Tryd.prog.wantsStandIn t = false by simpa using List.all_eq_true.1 hall t hm)⟩)
    (by kernel_rfl)
#print axioms fnExactHashSum_card
end Go.Proofs.YtbijlencoilchaaDoor
