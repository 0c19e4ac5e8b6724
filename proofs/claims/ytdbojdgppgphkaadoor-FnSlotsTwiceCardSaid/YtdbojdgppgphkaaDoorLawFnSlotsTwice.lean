/- FnSlotsTwice: for all bytes the law returns true. The tables are tied to the program's text. No condition. -/
import Derived.Test.YtdbojdgppgphkaaDoorSlotTied
import Derived.Test.YtdbojdgppgphkaaDoorDrawSlots4
import Derived.Test.YtdbojdgppgphkaaDoorSlotPlain2
import Derived.Test.YtdbojdgppgphkaaDoorSlotEq
namespace Go.Proofs.YtdbojdgppgphkaaDoor
set_option linter.unusedSimpArgs false
open Go.ChangeShapes Go.WideShapes Go.ChangeAt Go.RowKit
set_option linter.unusedVariables false
theorem torn_len1 (a b t : List UInt8) (n : Int) : (tornR a b t n).1.length ≤ a.length + t.length + 200 := by
  obtain ⟨q1, q2, _⟩ := lastR_pos a b
  have := slotW_len (n := (lastR a b).2.1 + 1) (by omega) t
  have h2 := tornB_len (slotW ((lastR a b).2.1 + 1) t) a n
  unfold tornR
  split
  · simp only; omega
  · split <;> simp only <;> omega
theorem torn_len2 (a b t : List UInt8) (n : Int) : (tornR a b t n).2.length ≤ b.length + t.length + 200 := by
  obtain ⟨q1, q2, _⟩ := lastR_pos a b
  have := slotW_len (n := (lastR a b).2.1 + 1) (by omega) t
  have h2 := tornB_len (slotW ((lastR a b).2.1 + 1) t) b n
  unfold tornR
  split
  · simp only; omega
  · split <;> simp only <;> omega
theorem next_str : (⟨#[110, 101, 120, 116]⟩ : ByteArray) = str [110, 101, 120, 116] := rfl
set_option maxHeartbeats 3200000 in
theorem fnSlotsTwice_w (v0 : Value) (w : World) (h0 : IsBytes w v0) (hK : PT w w.heap.size) : Calls Tryd.prog 12 #[v0] w (RetB (.bool true) w) := by
  obtain ⟨A, n, c, xs, rfl, hr, hnc, hc, hx⟩ := h0
  unfold maxLen at hc
  have HP := Lib.hid hK
  clear hK
  by_cases hbig : n ≤ 1048576
  · have HD := Lib.hid (drawSlotsTorn_c A n c xs w hr hx hnc (by omega))
    clear hr hx
    go_enter Tryd.func12, Tryd.ntmps12
    go_wp2_with fail
    refine HD.out.mono ?_
    rintro e w1 ⟨SA, SB, S, k, rfl, hSA, hSB, hS, hk0, hk1, b1⟩
    have H1 := Lib.hid b1
    have hs1 := b1.size
    clear b1 HD
    have ea := str_of SA
    have eb := str_of SB
    have et := str_of S
    have la : SA.data.toList.length = SA.size := rfl
    have lb : SB.data.toList.length = SB.size := rfl
    have lt : S.data.toList.length = S.size := rfl
    have HS1 := Lib.hid (fun W => specSlotsTorn_c SA.data.toList SB.data.toList S.data.toList k (by omega) (by omega) (by omega) W)
    have HI1 := Lib.hid (fun W hp => slotsTorn_c SA.data.toList SB.data.toList S.data.toList k (by omega) (by omega) (by omega) (by omega) W hp)
    rw [ea, eb, et] at HS1 HI1
    have hl1 := torn_len1 SA.data.toList SB.data.toList S.data.toList k
    have hl2 := torn_len2 SA.data.toList SB.data.toList S.data.toList k
    generalize tornR SA.data.toList SB.data.toList S.data.toList k = R at *
    obtain ⟨r1, r2⟩ := R
    simp only at HS1 HI1 hl1 hl2
    have HI2 := Lib.hid (fun W hp => slotsWrite_c r1 r2 [110, 101, 120, 116] (by omega) (by omega) (by decide) W hp)
    have HS2 := Lib.hid (fun W => specSlotsWrite_c r1 r2 [110, 101, 120, 116] (by omega) (by omega) (by decide) W)
    have HRX := Lib.hid (fun W => slotsRead_c r1 r2 (by omega) (by omega) W)
    have hl3 := write_len1 r1 r2 [110, 101, 120, 116]
    have hl4 := write_len2 r1 r2 [110, 101, 120, 116]
    obtain ⟨q1, q2, _⟩ := lastR_pos r1 r2
    have HQ : ∀ R, writeR r1 r2 [110, 101, 120, 116] = R → R.2.2 = true → (lastR R.1 R.2.1).1 = [110, 101, 120, 116] ∧ (lastR R.1 R.2.1).2.1 = (lastR r1 r2).2.1 + 1 := by
      intro R eR h
      by_cases hm2 : (lastR r1 r2).2.1 < 9999
      · obtain ⟨s1, s2, s3⟩ := write_last r1 r2 [110, 101, 120, 116] hm2
        rw [eR] at s1 s2
        exact ⟨s1, s2⟩
      · rw [write_full r1 r2 [110, 101, 120, 116] hm2] at eR
        subst eR
        cases h
    obtain ⟨⟨g1, g2, f⟩, eR⟩ : ∃ R, R = writeR r1 r2 [110, 101, 120, 116] := ⟨_, rfl⟩
    have hf := HQ _ eR.symm
    clear HQ
    simp only at hf
    rw [← eR] at HI2 HS2 hl3 hl4
    simp only at HI2 HS2 hl3 hl4
    have hnx : ([110, 101, 120, 116] : List UInt8).length = 4 := rfl
    rw [hnx] at hl3 hl4
    have HRY := Lib.hid (fun W => slotsRead_c g1 g2 (by omega) (by omega) W)
    clear eR ea eb et la lb lt hl1 hl2 hl3 hl4 hnx
    have EY : Hid (f = true → str (lastR g1 g2).1 = str [110, 101, 120, 116] ∧ (lastR g1 g2).2.1 = (lastR r1 r2).2.1 + 1) := Lib.hid (fun h => ⟨by rw [(hf h).1], (hf h).2⟩)
    clear hf
    rw [← next_str] at HI2 HS2 EY
    generalize str (lastR g1 g2).1 = L at *
    generalize (lastR g1 g2).2.1 = l at *
    generalize str (lastR r1 r2).1 = O at *
    generalize (lastR r1 r2).2.1 = m at *
    generalize str g1 = Q1 at *
    generalize str g2 = Q2 at *
    generalize str r1 = R1 at *
    generalize str r2 = R2 at *
    have E1 := fun W => eqSlots_run R1 R2 W
    have E2 := fun W => eqSlots_run Q1 Q2 W
    have hw1 : IntKind.i64.wrap (m + 1) = m + 1 := IntWalk.i64_in _ (by omega)
    clear hSA hSB hS
    (go_wp2_with fail); (go_at_call 40; refine (HI1.out _ ((HP.out.below (show Below w.heap.size w _ from below_via H1.out (by go_grown))).more (by (try simp); omega))).mono ?_; rintro e w2 ⟨rfl, b2⟩; obtain ⟨gc2, gf2⟩ := below_get b2; (try simp only [heap_drew, World.size_alloc, World.size_setCell] at gc2 gf2); have s2 := below_via (w := w1) (by go_grown) b2; have H2 := below_via H1 s2; have hs2 := b2.size; (try simp at hs2); have z2_0 : w1.heap.size < w2.heap.size := (by omega); clear b2)
    go_wp2_with fail
    go_region_held3 (fun w' => w'.cell? ⟨w1.heap.size, 0, none⟩ = some (.string SA) ∧ w'.cell? ⟨w1.heap.size, 1, none⟩ = some (.string SB) ∧ w'.cell? ⟨w2.heap.size, 0, none⟩ = some (.string R1) ∧ w'.cell? ⟨w2.heap.size, 1, none⟩ = some (.string R2)) (simp [go_sem, *])
      ((go_at_call 39; refine (HS1.out _).mono ?_; rintro e w3 ⟨rfl, b3⟩; obtain ⟨gc3, gf3⟩ := below_get b3; (try simp only [heap_drew, World.size_alloc, World.size_setCell] at gc3 gf3); have s3 := below_via (w := w2) (by go_grown) b3; have H3 := below_via H2 s3; have hs3 := b3.size; (try simp at hs3); have z3_0 : w1.heap.size < w3.heap.size := (by omega); have z3_1 : w2.heap.size < w3.heap.size := (by omega); clear b3))
    (go_wp2_with fail); (go_at_call 37; refine (HI2.out _ ((HP.out.below (show Below w.heap.size w _ from below_via H3 (by go_grown))).more (by (try simp); omega))).mono ?_; rintro e w4 ⟨rfl, b4⟩; obtain ⟨gc4, gf4⟩ := below_get b4; (try simp only [heap_drew, World.size_alloc, World.size_setCell] at gc4 gf4); have s4 := below_via (w := w3) (by go_grown) b4; have H4 := below_via H3 s4; have hs4 := b4.size; (try simp at hs4); have z4_0 : w1.heap.size < w4.heap.size := (by omega); have z4_1 : w2.heap.size < w4.heap.size := (by omega); clear b4)
    (go_wp2_with fail); (go_at_call 35; refine (HS2.out _).mono ?_; rintro e w5 ⟨rfl, b5⟩; obtain ⟨gc5, gf5⟩ := below_get b5; (try simp only [heap_drew, World.size_alloc, World.size_setCell] at gc5 gf5); have s5 := below_via (w := w4) (by go_grown) b5; have H5 := below_via H4 s5; have hs5 := b5.size; (try simp at hs5); have z5_0 : w1.heap.size < w5.heap.size := (by omega); have z5_1 : w2.heap.size < w5.heap.size := (by omega); have z5_2 : w4.heap.size < w5.heap.size := (by omega); clear b5)
    (go_wp2_with fail); (go_at_call 42; refine (HRY.out _).mono ?_; rintro e w6 ⟨rfl, b6⟩; obtain ⟨gc6, gf6⟩ := below_get b6; (try simp only [heap_drew, World.size_alloc, World.size_setCell] at gc6 gf6); have s6 := below_via (w := w5) (by go_grown) b6; have H6 := below_via H5 s6; have hs6 := b6.size; (try simp at hs6); have z6_0 : w1.heap.size < w6.heap.size := (by omega); have z6_1 : w2.heap.size < w6.heap.size := (by omega); have z6_2 : w4.heap.size < w6.heap.size := (by omega); have z6_3 : w5.heap.size < w6.heap.size := (by omega); clear b6)
    (go_wp2_with fail); (go_at_call 42; refine (HRX.out _).mono ?_; rintro e w7 ⟨rfl, b7⟩; obtain ⟨gc7, gf7⟩ := below_get b7; (try simp only [heap_drew, World.size_alloc, World.size_setCell] at gc7 gf7); have s7 := below_via (w := w6) (by go_grown) b7; have H7 := below_via H6 s7; have hs7 := b7.size; (try simp at hs7); have z7_0 : w1.heap.size < w7.heap.size := (by omega); have z7_1 : w2.heap.size < w7.heap.size := (by omega); have z7_2 : w4.heap.size < w7.heap.size := (by omega); have z7_3 : w5.heap.size < w7.heap.size := (by omega); clear b7)
    cases f with
    | false =>
      clear EY
      go_wp2
      go_returns
      exact ⟨rfl, by go_grown⟩
    | true =>
      obtain ⟨rfl, rfl⟩ := EY.out rfl
      go_wp2
      go_returns
      exact ⟨rfl, by go_grown⟩
  · clear hr hx
    go_enter Tryd.func12, Tryd.ntmps12
    go_wp2
    go_returns
    exact ⟨rfl, by go_grown⟩
set_option maxRecDepth 100000 in
theorem fnSlotsTwice_lifted (os : Os) (started : os.Started) (H : Type) (enc : TypeId × Value → H) :
    ReturnsInHanded {} Tryd.checked os 12 .any (fun w args => (Rows.fnSlotsTwiceSpec.pre enc Tryd.prog Tryd.f12 [] false w args ∧ laidMetH Tryd.prog Rows.fnSlotsTwiceRow.laid w) ∧ sizedMet enc Tryd.prog Tryd.f12 (OpenSpec.ofChange Rows.fnSlotsTwiceSpec) false w args)
      (Rows.fnSlotsTwiceSpec.post enc Tryd.prog Tryd.f12 false true false false) := by
  refine returnsInHanded_of_change_and (C := Tryd.checked) (X := fun w _ => laidMetH Tryd.prog Rows.fnSlotsTwiceRow.laid w) (fun _ _ _ hh h => h.of_heap hh) own started (by kernel_rfl) Tryd.func12
    (ChangeSpec.witness_shaped (enc := enc) (C := Tryd.checked) (os := os) (X := fun w _ => laidMetH Tryd.prog Rows.fnSlotsTwiceRow.laid w) false (World.doorLaid Tryd.prog 400 os) #[.slice none 0 0] 8 rfl (World.shaped_of_RefB (by kernel_rfl) (by kernel_rfl)) (by kernel_rfl) (by kernel_rfl) (by kernel_rfl) (laid_met os _)) ?_
  intro W base args ds gs before hval0 hW _ _ hL _
  have hval : ∀ (j : Nat) t v, Tryd.f12.params[j]? = some t → args[j]? = some v → Value.okWide Tryd.prog W .any base t v := hval0
  have hW' := hW
  obtain ⟨p, q, hA0, hV, rfl, hfz, hnd⟩ := hW
  have hA : DataW.TrodAll enc Tryd.prog W 0 (fun _ => true) true Tryd.f12.params.toList args.toList ds p := hA0
  rw [Tryd.params12] at hA hval
  obtain ⟨v0, vs0, d0, ds0, p0, q0, hargs, rfl, rfl, h0, r0⟩ := trodAll_cons hA
  obtain ⟨rfl, rfl, rfl⟩ := trodAll_nil r0
  obtain rfl : args = #[v0] := by cases args; simp_all
  obtain ⟨rfl, rfl⟩ := trodVars_none hV
  have k0 := h0
  have lt0 : ∀ x ∈ p0, x.block < W.heap.size := by obtain ⟨m, hm⟩ := k0; exact DataW.trod_lt m _ _ _ hm
  have o0 := open_Bytes (hval 0 24 v0 rfl rfl) h0
  clear hA0 hval0
  refine (fnSlotsTwice_w v0 W o0 (pt_of_laid hL)).mono fun e W' ⟨he, bel⟩ => ?_
  subst he
  exact ⟨_, rfl, _, _, _, [], _, [], hW', trodAll_mk1 (shut_bool Tryd.underlying4 _), (trodAll_cons_mk (Below.trod laidOut (by kernel_rfl) (of_decide_eq_true (by kernel_rfl)) k0 bel lt0) trodAll_mk0), rfl, bel.frame _, fun h => by cases h⟩

theorem fnSlotsTwice_holds : Rows.FnSlotsTwiceSaid :=
  OpenClaim.holds_of_wide 12 Tryd.f12 rfl rfl rfl rfl rfl rfl rfl ⟨rfl, rfl, rfl, rfl, rfl⟩ rfl rfl rfl rfl rfl (by kernel_rfl) Tryd.func12 (by kernel_rfl)
    (of_decide_eq_true (by kernel_rfl)) (by unfold Func.isWrapper; rw [if_neg (of_decide_eq_false (by kernel_rfl))]; exact ⟨rfl, rfl⟩)
    (fun os started H enc _ => fnSlotsTwice_lifted os started H enc)
theorem fnSlotsTwice_card : Rows.FnSlotsTwiceCardSaid :=
  Claim7.holds_tied_plain_at .later [] [.data, .data, .data] true (true, "b121fac4b65e6596d7006fcc74cc60828f861e55e109e0c6baaf5907fcd27632") true
    fnSlotsTwice_holds (fun _ h => by cases h) (by kernel_rfl) (fun _ h => by cases h) fnSlotsTwice_row_tie rfl ⟨rfl, rfl⟩ (by kernel_rfl) rfl
    (fun f fn hf hfn => by
      obtain rfl : f = 12 := Option.some.inj ((show Tryd.prog.funcNamed "loop.example/gatelodge/laws.FnSlotsTwice" = some 12 by kernel_rfl).symm.trans hf) |>.symm
      obtain rfl : fn = Tryd.f12 := (Option.some.inj (Tryd.func12.symm.trans hfn)).symm
      exact ⟨by kernel_rfl, fun j t ht => by
        rw [Tryd.params12] at ht
        have hm : t ∈ [24] := by simpa using Array.mem_of_getElem? ht
        have hall : ([24].all fun u => !Tryd.prog.wantsStandIn u) = true := by kernel_rfl
        exact (show Tryd.prog.wantsStandIn t = false by simpa using List.all_eq_true.1 hall t hm)⟩)
    (by kernel_rfl)
#print axioms fnSlotsTwice_card
end Go.Proofs.YtdbojdgppgphkaaDoor
