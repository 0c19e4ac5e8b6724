/- FnHashSum: for all drawn bytes the law returns true: both sides agree, and the texts known to everybody have the known sums; the listed table reads as it did. The table is tied to the program's text. No condition. -/
import Derived.Test.YtbijlencoilchaaDoorTied
import Derived.Test.YtbijlencoilchaaDoorDrawHash
namespace Go.Proofs.YtbijlencoilchaaDoor
open Go.ChangeShapes Go.WideShapes Go.ChangeAt Go.RowKit
set_option linter.unusedVariables false
theorem abc_sum : strOfNums (hexL (digest (bytesI ⟨#[97, 98, 99]⟩))) = (⟨#[98, 97, 55, 56, 49, 54, 98, 102, 56, 102, 48, 49, 99, 102, 101, 97, 52, 49, 52, 49, 52, 48, 100, 101, 53, 100, 97, 101, 50, 50, 50, 51, 98, 48, 48, 51, 54, 49, 97, 51, 57, 54, 49, 55, 55, 97, 57, 99, 98, 52, 49, 48, 102, 102, 54, 49, 102, 50, 48, 48, 49, 53, 97, 100]⟩ : ByteArray) := by decide +kernel
theorem jefe_mac : strOfNums (hexL (digest (padTo (bytesI (keyS ⟨#[74, 101, 102, 101]⟩)) 92 64 ++ digest (padTo (bytesI (keyS ⟨#[74, 101, 102, 101]⟩)) 54 64 ++ bytesI ⟨#[119, 104, 97, 116, 32, 100, 111, 32, 121, 97, 32, 119, 97, 110, 116, 32, 102, 111, 114, 32, 110, 111, 116, 104, 105, 110, 103, 63]⟩)))) = (⟨#[53, 98, 100, 99, 99, 49, 52, 54, 98, 102, 54, 48, 55, 53, 52, 101, 54, 97, 48, 52, 50, 52, 50, 54, 48, 56, 57, 53, 55, 53, 99, 55, 53, 97, 48, 48, 51, 102, 48, 56, 57, 100, 50, 55, 51, 57, 56, 51, 57, 100, 101, 99, 53, 56, 98, 57, 54, 52, 101, 99, 51, 56, 52, 51]⟩ : ByteArray) := by decide +kernel
theorem abc_c (w : World) (hK : KT w) (hz : 0 < w.heap.size) : Calls Tryd.prog 7 #[.string ⟨#[97, 98, 99]⟩] w (RetB (.string ⟨#[98, 97, 55, 56, 49, 54, 98, 102, 56, 102, 48, 49, 99, 102, 101, 97, 52, 49, 52, 49, 52, 48, 100, 101, 53, 100, 97, 101, 50, 50, 50, 51, 98, 48, 48, 51, 54, 49, 97, 51, 57, 54, 49, 55, 55, 97, 57, 99, 98, 52, 49, 48, 102, 102, 54, 49, 102, 50, 48, 48, 49, 53, 97, 100]⟩) w) := by
  have := hashSum_c ⟨#[97, 98, 99]⟩ (by decide) w hK hz
  rwa [abc_sum] at this
theorem jefe_c (w : World) (hK : KT w) (hz : 0 < w.heap.size) : Calls Tryd.prog 9 #[.string ⟨#[74, 101, 102, 101]⟩, .string ⟨#[119, 104, 97, 116, 32, 100, 111, 32, 121, 97, 32, 119, 97, 110, 116, 32, 102, 111, 114, 32, 110, 111, 116, 104, 105, 110, 103, 63]⟩] w (RetB (.string ⟨#[53, 98, 100, 99, 99, 49, 52, 54, 98, 102, 54, 48, 55, 53, 52, 101, 54, 97, 48, 52, 50, 52, 50, 54, 48, 56, 57, 53, 55, 53, 99, 55, 53, 97, 48, 48, 51, 102, 48, 56, 57, 100, 50, 55, 51, 57, 56, 51, 57, 100, 101, 99, 53, 56, 98, 57, 54, 52, 101, 99, 51, 56, 52, 51]⟩) w) := by
  have := hashMac_c ⟨#[74, 101, 102, 101]⟩ ⟨#[119, 104, 97, 116, 32, 100, 111, 32, 121, 97, 32, 119, 97, 110, 116, 32, 102, 111, 114, 32, 110, 111, 116, 104, 105, 110, 103, 63]⟩ (by decide) (by decide) w hK hz
  rwa [jefe_mac] at this
set_option maxHeartbeats 800000 in
theorem fnHashSum_law (A : Option Addr) (n c : Nat) (xs : List Int) (B : Option Addr) (m d : Nat) (ys : List Int) (w : World) (hr : Rd w w.heap.size 1 A n (u8s xs)) (hx : ∀ x ∈ xs, 0 ≤ x ∧ x ≤ 255) (hc : n ≤ c) (hc2 : c ≤ 9223372036854775807)
    (hq : Rd w w.heap.size 1 B m (u8s ys)) (hy : ∀ x ∈ ys, 0 ≤ x ∧ x ≤ 255) (hd : m ≤ d) (hd2 : d ≤ 9223372036854775807) (hK : KT w) :
    Calls Tryd.prog 5 #[.slice A n c, .slice B m d] w (RetB (.bool true) w) := by
  have hz := kt_pos hK
  have HK := Lib.hid hK
  have HR := Lib.hid hr
  have HX := Lib.hid hx
  have HQ := Lib.hid hq
  have HY := Lib.hid hy
  clear hr hx hq hy hK
  by_cases h1 : n ≤ 1048576
  · have k1 : decide (1048576 < (n : Int)) = false := by simp; omega
    by_cases h2 : m ≤ 1048576
    · have k2 : decide (1048576 < (m : Int)) = false := by simp; omega
      go_enter Tryd.func5, Tryd.ntmps5
      (go_wp2_with fail); (go_at_call 10; refine (drawHashSum_c A n c xs _ HR.out HX.out hc hc2).mono ?_; rintro e w1 ⟨s, rfl, hs, b1⟩; obtain ⟨gc1, gf1⟩ := below_get b1; (try simp only [heap_drew, World.size_alloc, World.size_setCell] at gc1 gf1); have s1 := below_via (w := w) (by go_grown) b1; have H1 := s1; have hs1 := b1.size; (try simp at hs1); clear b1)
      (go_wp2_with fail); (go_at_call 11; refine (drawHashMac_c B m d ys _ ((HQ.out.up s1).upB (by go_grown) (by go_size)) HY.out hd hd2).mono ?_; rintro e w2 ⟨k, t, rfl, hk, ht, b2⟩; obtain ⟨gc2, gf2⟩ := below_get b2; (try simp only [heap_drew, World.size_alloc, World.size_setCell] at gc2 gf2); have s2 := below_via (w := w1) (by go_grown) b2; have H2 := below_via H1 s2; have hs2 := b2.size; (try simp at hs2); clear b2)
      have HC1 := Lib.hid (hashSum_c s (by omega))
      have HC2 := Lib.hid (specHashSum_c s (by omega))
      generalize strOfNums (hexL (digest (bytesI s))) = X1 at *
      have HC3 := Lib.hid (hashMac_c k t (by omega) (by omega))
      have HC4 := Lib.hid (specHashMac_c k t (by omega) (by omega))
      generalize strOfNums (hexL (digest (padTo (bytesI (keyS k)) 92 64 ++ digest (padTo (bytesI (keyS k)) 54 64 ++ bytesI t)))) = X2 at *
      (go_wp2_with fail); (go_at_call 7; refine (HC1.out _ (HK.out.up H2 hz) (by omega)).mono ?_; rintro e w3 ⟨rfl, b3⟩; obtain ⟨gc3, gf3⟩ := below_get b3; (try simp only [heap_drew, World.size_alloc, World.size_setCell] at gc3 gf3); have s3 := below_via (w := w2) (by go_grown) b3; have H3 := below_via H2 s3; have hs3 := b3.size; (try simp at hs3); clear b3)
      (go_wp2_with fail); (go_at_call 6; refine (HC2.out _).mono ?_; rintro e w4 ⟨rfl, b4⟩; obtain ⟨gc4, gf4⟩ := below_get b4; (try simp only [heap_drew, World.size_alloc, World.size_setCell] at gc4 gf4); have s4 := below_via (w := w3) (by go_grown) b4; have H4 := below_via H3 s4; have hs4 := b4.size; (try simp at hs4); clear b4)
      (go_wp2_with fail); (go_at_call 9; refine (HC3.out _ (HK.out.up H4 hz) (by omega)).mono ?_; rintro e w5 ⟨rfl, b5⟩; obtain ⟨gc5, gf5⟩ := below_get b5; (try simp only [heap_drew, World.size_alloc, World.size_setCell] at gc5 gf5); have s5 := below_via (w := w4) (by go_grown) b5; have H5 := below_via H4 s5; have hs5 := b5.size; (try simp at hs5); clear b5)
      (go_wp2_with fail); (go_at_call 8; refine (HC4.out _).mono ?_; rintro e w6 ⟨rfl, b6⟩; obtain ⟨gc6, gf6⟩ := below_get b6; (try simp only [heap_drew, World.size_alloc, World.size_setCell] at gc6 gf6); have s6 := below_via (w := w5) (by go_grown) b6; have H6 := below_via H5 s6; have hs6 := b6.size; (try simp at hs6); clear b6)
      (go_wp2_with fail); (go_at_call 7; refine (abc_c _ (HK.out.up H6 hz) (by omega)).mono ?_; rintro e w7 ⟨rfl, b7⟩; obtain ⟨gc7, gf7⟩ := below_get b7; (try simp only [heap_drew, World.size_alloc, World.size_setCell] at gc7 gf7); have s7 := below_via (w := w6) (by go_grown) b7; have H7 := below_via H6 s7; have hs7 := b7.size; (try simp at hs7); clear b7)
      (go_wp2_with fail); (go_at_call 9; refine (jefe_c _ (HK.out.up H7 hz) (by omega)).mono ?_; rintro e w8 ⟨rfl, b8⟩; obtain ⟨gc8, gf8⟩ := below_get b8; (try simp only [heap_drew, World.size_alloc, World.size_setCell] at gc8 gf8); have s8 := below_via (w := w7) (by go_grown) b8; have H8 := below_via H7 s8; have hs8 := b8.size; (try simp at hs8); clear b8)
      go_wp2
      go_returns
      exact ⟨rfl, by go_grown⟩
    · have k2 : decide (1048576 < (m : Int)) = true := by simp; omega
      go_enter Tryd.func5, Tryd.ntmps5
      go_wp2
      go_returns
      exact ⟨rfl, by go_grown⟩
  · have k1 : decide (1048576 < (n : Int)) = true := by simp; omega
    go_enter Tryd.func5, Tryd.ntmps5
    go_wp2
    go_returns
    exact ⟨rfl, by go_grown⟩
theorem fnHashSum_w (v0 v1 : Value) (W : World) (h0 : IsBytes W v0) (h1 : IsBytes W v1) (hK : KT W) : Calls Tryd.prog 5 #[v0, v1] W (RetB (.bool true) W) := by
  obtain ⟨A, n, c, xs, rfl, hr, hn, hcm, hx⟩ := h0
  obtain ⟨B, m, d, ys, rfl, hq, hm, hdm, hy⟩ := h1
  exact fnHashSum_law A n c xs B m d ys W hr hx hn (by unfold maxLen at hcm; omega) hq hy hm (by unfold maxLen at hdm; omega) hK
theorem fnHashSum_met (os : Os) (args : Array Value) : laidMetH Tryd.prog Rows.fnHashSumRow.laid ((World.doorLaid Tryd.prog 400 os).forCall (fun _ _ => 0) ⟨#[], args, []⟩).memory :=
  laidMetH_of_parts3 (fuel := 8) (laidMet_of_run' 8 (by kernel_rfl) (by kernel_rfl)) (by kernel_rfl) (by kernel_rfl)
set_option maxRecDepth 100000 in
theorem fnHashSum_lifted (os : Os) (started : os.Started) (H : Type) (enc : TypeId × Value → H) :
    ReturnsInHanded {} Tryd.checked os 5 .any (fun w args => (Rows.fnHashSumSpec.pre enc Tryd.prog Tryd.f5 [] false w args ∧ laidMetH Tryd.prog Rows.fnHashSumRow.laid w) ∧ sizedMet enc Tryd.prog Tryd.f5 (OpenSpec.ofChange Rows.fnHashSumSpec) false w args)
      (Rows.fnHashSumSpec.post enc Tryd.prog Tryd.f5 false true false false) := by
  refine returnsInHanded_of_change_and (C := Tryd.checked) (X := fun w _ => laidMetH Tryd.prog Rows.fnHashSumRow.laid w) (fun _ _ _ hh h => h.of_heap hh) own started (by kernel_rfl) Tryd.func5
    (ChangeSpec.witness_shaped (enc := enc) (C := Tryd.checked) (os := os) (X := fun w _ => laidMetH Tryd.prog Rows.fnHashSumRow.laid w) false (World.doorLaid Tryd.prog 400 os) #[.slice none 0 0, .slice none 0 0] 8 rfl (World.shaped_of_RefB (by kernel_rfl) (by kernel_rfl)) (by kernel_rfl) (by kernel_rfl) (by kernel_rfl) (fnHashSum_met os _)) ?_
  intro W base args ds gs before hval0 hW _ _ hL _
  have hval : ∀ (j : Nat) t v, Tryd.f5.params[j]? = some t → args[j]? = some v → Value.okWide Tryd.prog W .any base t v := hval0
  have hW' := hW
  obtain ⟨p, q, hA0, hV, rfl, hfz, hnd⟩ := hW
  have hA : DataW.TrodAll enc Tryd.prog W 0 (fun _ => true) true Tryd.f5.params.toList args.toList ds p := hA0
  rw [Tryd.params5] at hA hval
  obtain ⟨v0, vs0, d0, ds0, p0, q0, hargs, rfl, rfl, h0, r0⟩ := trodAll_cons hA
  obtain ⟨v1, vs1, d1, ds1, p1, q1, rfl, rfl, rfl, h1, r1⟩ := trodAll_cons r0
  obtain ⟨rfl, rfl, rfl⟩ := trodAll_nil r1
  obtain rfl : args = #[v0, v1] := by cases args; simp_all
  have hV2 := hV
  obtain ⟨gv, tv, cv, fv, dv, pv, rfl, _, _, _, _, rfl⟩ := trodVars_one hV2
  have k0 := h0
  have lt0 : ∀ x ∈ p0, x.block < W.heap.size := by obtain ⟨m, hm⟩ := k0; exact DataW.trod_lt m _ _ _ hm
  have o0 := open_Bytes (hval 0 26 v0 rfl rfl) h0
  have k1 := h1
  have lt1 : ∀ x ∈ p1, x.block < W.heap.size := by obtain ⟨m, hm⟩ := k1; exact DataW.trod_lt m _ _ _ hm
  have o1 := open_Bytes (hval 1 26 v1 rfl rfl) h1
  clear hA0 hval0
  refine (fnHashSum_w v0 v1 W o0 o1 (kt_of_laid hL)).mono fun e W' ⟨he, bel⟩ => ?_
  subst he
  exact ⟨_, rfl, _, _, _, [], _, _, hW', trodAll_mk1 (shut_bool Tryd.underlying4 _), (trodAll_cons_mk (Below.trod laidOut (by kernel_rfl) (of_decide_eq_true (by kernel_rfl)) k0 bel lt0) (trodAll_cons_mk (Below.trod laidOut (by kernel_rfl) (of_decide_eq_true (by kernel_rfl)) k1 bel lt1) trodAll_mk0)), Below.trodVars laidOut bel (by kernel_rfl) hV, bel.frame _, fun h => by cases h⟩

theorem fnHashSum_holds : Rows.FnHashSumSaid :=
  OpenClaim.holds_of_wide 5 Tryd.f5 rfl rfl rfl rfl rfl rfl rfl ⟨rfl, rfl, rfl, rfl, rfl⟩ rfl rfl rfl rfl rfl (by kernel_rfl) Tryd.func5 (by kernel_rfl)
    (of_decide_eq_true (by kernel_rfl)) (by unfold Func.isWrapper; rw [if_neg (of_decide_eq_false (by kernel_rfl))]; exact ⟨rfl, rfl⟩)
    (fun os started H enc _ => fnHashSum_lifted os started H enc)
theorem fnHashSum_card : Rows.FnHashSumCardSaid :=
  Claim7.holds_tied_plain_at .later [] [.data] true (true, "ac90d3033e12c2a99792c4eaa1f366edd2f02fd8805178c71bac41f21071963d") false
    fnHashSum_holds (fun _ h => by cases h) (by kernel_rfl) (fun _ h => by cases h) fnHashSum_row_tie rfl ⟨rfl, rfl⟩ (by kernel_rfl) rfl
    (fun f fn hf hfn => by
      obtain rfl : f = 5 := Option.some.inj ((show Tryd.prog.funcNamed "loop.example/gatelodge/laws.FnHashSum" = some 5 by kernel_rfl).symm.trans hf) |>.symm
      obtain rfl : fn = Tryd.f5 := (Option.some.inj (Tryd.func5.symm.trans hfn)).symm
      exact ⟨by kernel_rfl, fun j t ht => by
        rw [Tryd.params5] at ht
        have hm : t ∈ [26, 26] := by simpa using Array.mem_of_getElem? ht
        have hall : ([26, 26].all fun u => !Tryd.prog.wantsStandIn u) = true := by kernel_rfl
        exact (show Tryd.prog.wantsStandIn t = false by simpa using List.all_eq_true.1 hall t hm)⟩)
    (by kernel_rfl)
#print axioms fnHashSum_card
end Go.Proofs.YtbijlencoilchaaDoor
