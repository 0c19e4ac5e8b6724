/- FnSlotsTorn: for all bytes the law returns true. The tables are tied to the program's text. No condition. -/
import Derived.Test.YtdbojdgppgphkaaDoorSlotTied
import Derived.Test.YtdbojdgppgphkaaDoorDrawSlots4
import Derived.Test.YtdbojdgppgphkaaDoorSlotPlain2
import Derived.Test.YtdbojdgppgphkaaDoorSlotEq
namespace Go.Proofs.YtdbojdgppgphkaaDoor
set_option linter.unusedSimpArgs false
open Go.ChangeShapes Go.WideShapes Go.ChangeAt Go.RowKit
set_option linter.unusedVariables false
theorem torn_len1 (a b t : List UInt8) (n : Int) : (tornR a b t n).1.length ≤ a.length + t.length + 200 := by
  obtain ⟨q1, q2, _⟩ := lastR_pos a b
  have := slotW_len (n := (lastR a b).2.1 + 1) (by omega) t
  have h2 := tornB_len (slotW ((lastR a b).2.1 + 1) t) a n
  unfold tornR
  split
  · simp only; omega
  · split <;> simp only <;> omega
theorem torn_len2 (a b t : List UInt8) (n : Int) : (tornR a b t n).2.length ≤ b.length + t.length + 200 := by
  obtain ⟨q1, q2, _⟩ := lastR_pos a b
  have := slotW_len (n := (lastR a b).2.1 + 1) (by omega) t
  have h2 := tornB_len (slotW ((lastR a b).2.1 + 1) t) b n
  unfold tornR
  split
  · simp only; omega
  · split <;> simp only <;> omega
/-- What the torn slots of so many bytes are, and what is read of them: what was there, or what was written. -/
theorem torn_reads (a b t : List UInt8) (ha : a.length ≤ 1000) (hb : b.length ≤ 1000) (ht : t.length ≤ 6) (k : Int) (hk : k ≤ 9223372036854775807) :
    ∃ (R1 R2 G : ByteArray) (K : Int), (∀ W, PT W W.heap.size → Calls Tryd.prog 40 #[.agg #[.string (str a), .string (str b)], .string (str t), .int .i64 k] W (RetB (.agg #[.string R1, .string R2]) W)) ∧
      (∀ W, Calls Tryd.prog 42 #[.agg #[.string R1, .string R2]] W (RetB (.tuple #[.string G, .int .i64 K]) W)) ∧
      ((G = str (lastR a b).1 ∧ K = (lastR a b).2.1) ∨ (G = str (lastR (writeR a b t).1 (writeR a b t).2.1).1 ∧ K = (lastR (writeR a b t).1 (writeR a b t).2.1).2.1)) := by
  have h1 := torn_len1 a b t k
  have h2 := torn_len2 a b t k
  refine ⟨_, _, _, _, fun W hp => slotsTorn_c a b t k hk (by omega) (by omega) (by omega) W hp, fun W => slotsRead_c _ _ (by omega) (by omega) W, ?_⟩
  rcases torn_last a b t k with h | h
  · left; rw [h]; exact ⟨rfl, rfl⟩
  · right; rw [h]; exact ⟨rfl, rfl⟩
theorem mul_bd (k m : Nat) (hk : k < 4) : 0 ≤ (k : Int) * (1 + (m : Int) % 30) ∧ (k : Int) * (1 + (m : Int) % 30) ≤ 90 := by
  have : k = 0 ∨ k = 1 ∨ k = 2 ∨ k = 3 := by omega
  rcases this with rfl | rfl | rfl | rfl <;> omega
set_option maxHeartbeats 6400000 in
set_option maxRecDepth 100000 in
theorem fnSlotsTorn_w (v0 v1 : Value) (w : World) (h0 : IsBytes w v0) (h1 : IsBytes w v1) (hK : PT w w.heap.size) : Calls Tryd.prog 11 #[v0, v1] w (RetB (.bool true) w) := by
  obtain ⟨A, n, c, xs, rfl, hr, hnc, hc, hx⟩ := h0
  obtain ⟨B, m, d, ys, rfl, _, hmd, hd, _⟩ := h1
  unfold maxLen at hc hd
  have HP := Lib.hid hK
  clear hK
  by_cases hbig : n ≤ 1048576
  · have k1 : decide (1048576 < (n : Int)) = false := by simp; omega
    by_cases hbig2 : m ≤ 1048576
    · have k2 : decide (1048576 < (m : Int)) = false := by simp; omega
      have HD := Lib.hid (drawSlotsTorn_c A n c xs w hr hx hnc (by omega))
      clear hr hx
      go_enter Tryd.func11, Tryd.ntmps11
      go_wp2_with fail
      refine HD.out.mono ?_
      rintro e w1 ⟨SA, SB, S, k, rfl, hSA, hSB, hS, hk0, hk1, b1⟩
      have H1 := Lib.hid b1
      have hs1 := b1.size
      clear b1 HD
      have ea := str_of SA
      have eb := str_of SB
      have et := str_of S
      have la : SA.data.toList.length = SA.size := rfl
      have lb : SB.data.toList.length = SB.size := rfl
      have lt : S.data.toList.length = S.size := rfl
      have HS1 := Lib.hid (fun W => specSlotsTorn_c SA.data.toList SB.data.toList S.data.toList k (by omega) (by omega) (by omega) W)
      have HI1 := Lib.hid (fun W hp => slotsTorn_c SA.data.toList SB.data.toList S.data.toList k (by omega) (by omega) (by omega) (by omega) W hp)
      have HTW := Lib.hid (fun W hp => slotsTorn_c SA.data.toList SB.data.toList S.data.toList 100000 (by omega) (by omega) (by omega) (by omega) W hp)
      rw [torn_whole SA.data.toList SB.data.toList S.data.toList 100000 (by omega)] at HTW
      have HR0 := Lib.hid (fun W => slotsRead_c SA.data.toList SB.data.toList (by omega) (by omega) W)
      have HW := Lib.hid (fun W hp => slotsWrite_c SA.data.toList SB.data.toList S.data.toList (by omega) (by omega) (by omega) W hp)
      have hl1 := write_len1 SA.data.toList SB.data.toList S.data.toList
      have hl2 := write_len2 SA.data.toList SB.data.toList S.data.toList
      have HRW := Lib.hid (fun W => slotsRead_c (writeR SA.data.toList SB.data.toList S.data.toList).1 (writeR SA.data.toList SB.data.toList S.data.toList).2.1 (by omega) (by omega) W)
      have TR := Lib.hid (torn_reads SA.data.toList SB.data.toList S.data.toList (by omega) (by omega) (by omega))
      rw [ea, eb, et] at HS1 HI1 HTW HW TR
      rw [ea, eb] at HR0
      clear ea eb et la lb lt hl1 hl2
      generalize str (lastR SA.data.toList SB.data.toList).1 = O at *
      generalize (lastR SA.data.toList SB.data.toList).2.1 = o at *
      generalize str (lastR (writeR SA.data.toList SB.data.toList S.data.toList).1 (writeR SA.data.toList SB.data.toList S.data.toList).2.1).1 = N at *
      generalize (lastR (writeR SA.data.toList SB.data.toList S.data.toList).1 (writeR SA.data.toList SB.data.toList S.data.toList).2.1).2.1 = q at *
      generalize str (writeR SA.data.toList SB.data.toList S.data.toList).1 = Q1 at *
      generalize str (writeR SA.data.toList SB.data.toList S.data.toList).2.1 = Q2 at *
      generalize (writeR SA.data.toList SB.data.toList S.data.toList).2.2 = f at *
      generalize str (tornR SA.data.toList SB.data.toList S.data.toList k).1 = R1 at *
      generalize str (tornR SA.data.toList SB.data.toList S.data.toList k).2 = R2 at *
      have E1 := fun W => eqSlots_run R1 R2 W
      clear hSA hSB hS
      have HB1 := Lib.hid (Blk.new w1 53 [.string SA, .string SB])
      (go_wp2_with fail); (go_at_call 40; refine (HI1.out _ ((HP.out.below (show Below w.heap.size w _ from below_via H1.out (by go_grown))).more (by (try simp); omega))).mono ?_; rintro e w2 ⟨rfl, b2⟩; have HB2 := Lib.hid (HB1.out.up b2); clear HB1; obtain ⟨gc2, gf2⟩ := below_get b2; (try simp only [heap_drew, World.size_alloc, World.size_setCell] at gc2 gf2); have s2 := below_via (w := w1) (by go_grown) b2; have H2 := below_via H1 s2; have hs2 := b2.size; (try simp at hs2); have z2_0 : w1.heap.size < w2.heap.size := (by omega); clear b2)
      go_wp2_with fail
      go_region_held3 (fun w' => w'.cell? ⟨w1.heap.size, 0, none⟩ = some (.string SA) ∧ w'.cell? ⟨w1.heap.size, 1, none⟩ = some (.string SB) ∧ w'.cell? ⟨w2.heap.size, 0, none⟩ = some (.string R1) ∧ w'.cell? ⟨w2.heap.size, 1, none⟩ = some (.string R2)) (simp [go_sem, *])
        ((go_at_call 39; refine (HS1.out _).mono ?_; rintro e w3 ⟨rfl, b3⟩; obtain ⟨gc3, gf3⟩ := below_get b3; (try simp only [heap_drew, World.size_alloc, World.size_setCell] at gc3 gf3); have s3 := below_via (w := w2) (by go_grown) b3; have H3 := below_via H2 s3; have hs3 := b3.size; (try simp at hs3); have z3_0 : w1.heap.size < w3.heap.size := (by omega); clear b3; have HB3 := Lib.hid (HB2.out.up s3); clear HB2))
      (go_wp2_with fail); (go_at_call 42; refine (HR0.out _).mono ?_; rintro e w4 ⟨rfl, b4⟩; obtain ⟨gc4, gf4⟩ := below_get b4; (try simp only [heap_drew, World.size_alloc, World.size_setCell] at gc4 gf4); have s4 := below_via (w := w3) (by go_grown) b4; have H4 := below_via H3 s4; have hs4 := b4.size; (try simp at hs4); have z4_0 : w1.heap.size < w4.heap.size := (by omega); clear b4; have HB4 := Lib.hid (HB3.out.up s4); clear HB3)
      (go_wp2_with fail); (go_at_call 37; refine (HW.out _ ((HP.out.below (show Below w.heap.size w _ from below_via H4 (by go_grown))).more (by (try simp); omega))).mono ?_; rintro e w5 ⟨rfl, b5⟩; obtain ⟨gc5, gf5⟩ := below_get b5; (try simp only [heap_drew, World.size_alloc, World.size_setCell] at gc5 gf5); have s5 := below_via (w := w4) (by go_grown) b5; have H5 := below_via H4 s5; have hs5 := b5.size; (try simp at hs5); have z5_0 : w1.heap.size < w5.heap.size := (by omega); clear b5; have HB5 := Lib.hid (HB4.out.up s5); clear HB4)
      (go_wp2_with fail); (go_at_call 42; refine (HRW.out _).mono ?_; rintro e w6 ⟨rfl, b6⟩; obtain ⟨gc6, gf6⟩ := below_get b6; (try simp only [heap_drew, World.size_alloc, World.size_setCell] at gc6 gf6); have s6 := below_via (w := w5) (by go_grown) b6; have H6 := below_via H5 s6; have hs6 := b6.size; (try simp at hs6); have z6_0 : w1.heap.size < w6.heap.size := (by omega); clear b6; have HB6 := Lib.hid (HB5.out.up s6); clear HB5)
      go_wp2_with fail
      have HL6 := Lib.hid H6
      clear gc2 gf2 gc3 gf3 gc4 gf4 gc5 gf5 gc6 gf6 s2 s3 s4 s5 s6 H2 H3 H4 H5 H6 E1
      go_loopg [15] 4 (fun gk i wr => ∃ (j : Nat), gk + j = 4 ∧ i = .int .i64 j ∧ Hid (Blk wr w1.heap.size 53 [.string SA, .string SB]) ∧ Hid (Below w.heap.size w wr))
      case atStart => exact ⟨0, rfl, rfl, HB6, HL6⟩
      case round =>
        obtain ⟨j, hgj, rfl, HB, HL⟩ := hrel
        have hbs := HL.out.size
        have hwl := HB.out.lt
        have c0 := HB.out.cell (i := 0) rfl
        have c1 := HB.out.cell (i := 1) rfl
        by_cases hj : gk = 0
        · subst hj
          obtain rfl : j = 4 := by omega
          (go_wp2_with fail); (go_at_call 40; refine (HTW.out _ ((HP.out.below HL.out).more (by omega))).mono ?_; rintro e w7 ⟨rfl, b7⟩; have L7 := below_on HL.out (by go_grown) b7; clear b7)
          (go_wp2_with fail); (go_at_call 42; refine (HRW.out _).mono ?_; rintro e w8 ⟨rfl, b8⟩; have L8 := below_via L7 (below_via (by go_grown) b8); clear b8)
          go_wp2
          go_returns
          exact ⟨rfl, by go_grown⟩
        · obtain ⟨gk, rfl⟩ : ∃ g, gk = g + 1 := ⟨gk - 1, by omega⟩
          have hb := mul_bd j m (by omega)
          obtain ⟨p0, p1⟩ := hb
          have p2 : (0 : Int) ≤ (m : Int) % 30 := Int.emod_nonneg _ (by omega)
          have p3 : (m : Int) % 30 < 30 := Int.emod_lt_of_pos _ (by omega)
          obtain ⟨T1, T2, G, K, hT, hR, hcase⟩ := TR.out (k + (j : Int) * (1 + (m : Int) % 30)) (by omega)
          have HT := Lib.hid hT
          have HRT := Lib.hid hR
          have HC := Lib.hid hcase
          clear hT hR hcase
          (go_wp2_with fail); (go_at_call 40; refine (HT.out _ ((HP.out.below HL.out).more (by omega))).mono ?_; rintro e w7 ⟨rfl, b7⟩; have L7 := Lib.hid (below_on HL.out (by go_grown) b7); have B7 := Lib.hid (HB.out.up b7); have hs7 := b7.size; (try simp at hs7); clear b7)
          (go_wp2_with fail); (go_at_call 42; refine (HRT.out _).mono ?_; rintro e w8 ⟨rfl, b8⟩; have L8 := Lib.hid (below_via L7.out (below_via (by go_grown) b8)); have B8 := Lib.hid ((B7.out.alloc _).up b8); clear b8)
          have hG : (G = O ∧ K = o) ∨ (G = N ∧ K = q) := HC.out
          clear HC HT HRT
          rcases hG with ⟨rfl, rfl⟩ | ⟨rfl, rfl⟩
          · go_wp2
            go_roundg gk
            case measure => omega
            case rel =>
              go_light
              exact ⟨j + 1, by omega, by go_num, B8, L8⟩
          · cases h1 : (G.toList == O.toList) with
            | false =>
              go_wp2
              go_roundg gk
              case measure => omega
              case rel =>
                go_light
                exact ⟨j + 1, by omega, by go_num, B8, L8⟩
            | true =>
              by_cases h2 : K = o
              · subst h2
                go_wp2
                go_roundg gk
                case measure => omega
                case rel =>
                  go_light
                  exact ⟨j + 1, by omega, by go_num, B8, L8⟩
              · have f2 : ((K : Int) == o) = false := by simpa using h2
                clear h2
                go_wp2
                go_roundg gk
                case measure => omega
                case rel =>
                  go_light
                  exact ⟨j + 1, by omega, by go_num, B8, L8⟩
    · have k2 : decide (1048576 < (m : Int)) = true := by simp; omega
      clear hr hx
      go_enter Tryd.func11, Tryd.ntmps11
      go_wp2
      go_returns
      exact ⟨rfl, by go_grown⟩
  · have k1 : decide (1048576 < (n : Int)) = true := by simp; omega
    clear hr hx
    go_enter Tryd.func11, Tryd.ntmps11
    go_wp2
    go_returns
    exact ⟨rfl, by go_grown⟩
set_option maxRecDepth 100000 in
theorem fnSlotsTorn_lifted (os : Os) (started : os.Started) (H : Type) (enc : TypeId × Value → H) :
    ReturnsInHanded {} Tryd.checked os 11 .any (fun w args => (Rows.fnSlotsTornSpec.pre enc Tryd.prog Tryd.f11 [] false w args ∧ laidMetH Tryd.prog Rows.fnSlotsTornRow.laid w) ∧ sizedMet enc Tryd.prog Tryd.f11 (OpenSpec.ofChange Rows.fnSlotsTornSpec) false w args)
      (Rows.fnSlotsTornSpec.post enc Tryd.prog Tryd.f11 false true false false) := by
  refine returnsInHanded_of_change_and (C := Tryd.checked) (X := fun w _ => laidMetH Tryd.prog Rows.fnSlotsTornRow.laid w) (fun _ _ _ hh h => h.of_heap hh) own started (by kernel_rfl) Tryd.func11
    (ChangeSpec.witness_shaped (enc := enc) (C := Tryd.checked) (os := os) (X := fun w _ => laidMetH Tryd.prog Rows.fnSlotsTornRow.laid w) false (World.doorLaid Tryd.prog 400 os) #[.slice none 0 0, .slice none 0 0] 8 rfl (World.shaped_of_RefB (by kernel_rfl) (by kernel_rfl)) (by kernel_rfl) (by kernel_rfl) (by kernel_rfl) (laid_met os _)) ?_
  intro W base args ds gs before hval0 hW _ _ hL _
  have hval : ∀ (j : Nat) t v, Tryd.f11.params[j]? = some t → args[j]? = some v → Value.okWide Tryd.prog W .any base t v := hval0
  have hW' := hW
  obtain ⟨p, q, hA0, hV, rfl, hfz, hnd⟩ := hW
  have hA : DataW.TrodAll enc Tryd.prog W 0 (fun _ => true) true Tryd.f11.params.toList args.toList ds p := hA0
  rw [Tryd.params11] at hA hval
  obtain ⟨v0, vs0, d0, ds0, p0, q0, hargs, rfl, rfl, h0, r0⟩ := trodAll_cons hA
  obtain ⟨v1, vs1, d1, ds1, p1, q1, rfl, rfl, rfl, h1, r1⟩ := trodAll_cons r0
  obtain ⟨rfl, rfl, rfl⟩ := trodAll_nil r1
  obtain rfl : args = #[v0, v1] := by cases args; simp_all
  obtain ⟨rfl, rfl⟩ := trodVars_none hV
  have k0 := h0
  have lt0 : ∀ x ∈ p0, x.block < W.heap.size := by obtain ⟨m, hm⟩ := k0; exact DataW.trod_lt m _ _ _ hm
  have o0 := open_Bytes (hval 0 24 v0 rfl rfl) h0
  have k1 := h1
  have lt1 : ∀ x ∈ p1, x.block < W.heap.size := by obtain ⟨m, hm⟩ := k1; exact DataW.trod_lt m _ _ _ hm
  have o1 := open_Bytes (hval 1 24 v1 rfl rfl) h1
  clear hA0 hval0
  refine (fnSlotsTorn_w v0 v1 W o0 o1 (pt_of_laid hL)).mono fun e W' ⟨he, bel⟩ => ?_
  subst he
  exact ⟨_, rfl, _, _, _, [], _, [], hW', trodAll_mk1 (shut_bool Tryd.underlying4 _), (trodAll_cons_mk (Below.trod laidOut (by kernel_rfl) (of_decide_eq_true (by kernel_rfl)) k0 bel lt0) (trodAll_cons_mk (Below.trod laidOut (by kernel_rfl) (of_decide_eq_true (by kernel_rfl)) k1 bel lt1) trodAll_mk0)), rfl, bel.frame _, fun h => by cases h⟩

theorem fnSlotsTorn_holds : Rows.FnSlotsTornSaid :=
  OpenClaim.holds_of_wide 11 Tryd.f11 rfl rfl rfl rfl rfl rfl rfl ⟨rfl, rfl, rfl, rfl, rfl⟩ rfl rfl rfl rfl rfl (by kernel_rfl) Tryd.func11 (by kernel_rfl)
    (of_decide_eq_true (by kernel_rfl)) (by unfold Func.isWrapper; rw [if_neg (of_decide_eq_false (by kernel_rfl))]; exact ⟨rfl, rfl⟩)
    (fun os started H enc _ => fnSlotsTorn_lifted os started H enc)
theorem fnSlotsTorn_card : Rows.FnSlotsTornCardSaid :=
  Claim7.holds_tied_plain_at .later [] [.data, .data, .data] true (true, "b121fac4b65e6596d7006fcc74cc60828f861e55e109e0c6baaf5907fcd27632") true
    fnSlotsTorn_holds (fun _ h => by cases h) (by kernel_rfl) (fun _ h => by cases h) fnSlotsTorn_row_tie rfl ⟨rfl, rfl⟩ (by kernel_rfl) rfl
    (fun f fn hf hfn => by
      obtain rfl : f = 11 := Option.some.inj ((show Tryd.prog.funcNamed "loop.example/gatelodge/laws.FnSlotsTorn" = some 11 by kernel_rfl).symm.trans hf) |>.symm
      obtain rfl : fn = Tryd.f11 := (Option.some.inj (Tryd.func11.symm.trans hfn)).symm
      exact ⟨by kernel_rfl, fun j t ht => by
        rw [Tryd.params11] at ht
        have hm : t ∈ [24, 24] := by simpa using Array.mem_of_getElem? ht
        have hall : ([24, 24].all fun u => !Tryd.prog.wantsStandIn u) = true := by kernel_rfl
        exact (show Tryd.prog.wantsStandIn t = false by simpa using List.all_eq_true.1 hall t hm)⟩)
    (by kernel_rfl)
#print axioms fnSlotsTorn_card
end Go.Proofs.YtdbojdgppgphkaaDoor
