/- FnExactPolicyRead: for every text the law returns true and leaves its argument as it was. The tables are tied to the program's text. No condition. -/
import Derived.Test.YtflhniobbdanjaaDoorJ2bb5e99c34
import Derived.Test.YtflhniobbdanjaaDoorJ95b0deacbe
import Derived.Test.YtflhniobbdanjaaDoorJ696dd27f1f
import Derived.Lay
namespace Go.Proofs.YtflhniobbdanjaaDoor
set_option linter.unusedSimpArgs false
open Go.ChangeShapes Go.WideShapes Go.ChangeAt Go.RowKit
set_option linter.unusedVariables false
theorem few_read (l : List UInt8) : Few (readF l).1.rs := by
  by_cases h : (readF l).2 = 0
  · have e : readF l = ((readF l).1, 0) := by rw [← h]
    exact few_ok (readF_sound e).1
  · have : (readF l).1 = ⟨[], 0⟩ := by
      unfold readF at h ⊢
      split
      · rfl
      · rename_i hc
        rw [if_neg hc] at h
        split
        · rfl
        · rename_i rs he
          rw [he] at h
          simp only at h
          split
          · rfl
          · rename_i v hv
            rw [hv] at h
            simp only at h
            split
            · rename_i hz
              rw [if_pos hz] at h
              exact absurd rfl h
            · rfl
    rw [this]
    exact few_nil
/-- The call returns such a policy, in memory of its own, and such a number. -/
def RetRX (ER ET : Nat) (Rs : List Rl) (Re n : Int) (w : World) (e : Ending) (w' : World) : Prop :=
  ∃ A c qs, e = .returned (.tuple #[.agg #[.slice A Rs.length c, .int .i64 Re], .int .i64 n]) ∧ rls qs = Rs ∧ OP w' w.heap.size w'.heap.size ER ET A Rs.length c qs ∧ Apart qs ∧ Below w.heap.size w w'
theorem read_x (l : List UInt8) (hl : l.length ≤ 1048576) : ∃ (Rs : List Rl) (Re n : Int), Few Rs ∧
    (∀ W, Calls Tryd.prog 5 #[.string (str l)] W (RetRX 40 67 Rs Re n W)) ∧
    (∀ W, Calls Tryd.prog 6 #[.string (str l)] W (RetRX 40 67 Rs Re n W)) :=
  ⟨(readF l).1.rs, (readF l).1.els, (readF l).2, few_read l, fun W => readS_c l hl W, fun W => readI_c l hl W⟩
set_option maxHeartbeats 4000000 in
theorem policyRead_law (l : List UInt8) (hl : l.length ≤ 9223372036854775807) (w : World) :
    Calls Tryd.prog 3 #[.string (str l)] w (RetB (.bool true) w) := by
  have hsz := str_size l
  by_cases hbig : l.length ≤ 1048576
  · obtain ⟨Rs, Re, at1, hfew, hS, hI⟩ := read_x l hbig
    have HS := Lib.hid hS
    have HI := Lib.hid hI
    clear hS hI
    have hfl := hfew.1
    have HF := Lib.hid hfew
    clear hfew
    have hd : decide ((1048576 : Int) < ((str l).size : Int)) = false := by simp; omega
    clear hsz
    generalize str l = L at *
    go_enter Tryd.func3, Tryd.ntmps3
    (go_wp2_with fail); (go_at_call 5; refine (HS.out _).mono ?_; rintro e w1 ⟨A1, c1, qs1, rfl, e1, o1, p1, b1⟩; have R1 := Lib.hid (o1.rd); rw [e1] at R1; clear o1 p1 e1; obtain ⟨gc1, gf1⟩ := below_get b1; (try simp only [heap_drew, World.size_alloc, World.size_setCell] at gc1 gf1); have s1 := below_via (w := w) (by go_grown) b1; have H1 := s1; have hs1 := b1.size; (try simp at hs1); clear b1)
    (go_wp2_with fail); (go_at_call 6; refine (HI.out _).mono ?_; rintro e w2 ⟨A2, c2, qs2, rfl, e2, o2, p2, b2⟩; have O2 := Lib.hid (o2.wide (show w1.heap.size + 1 ≤ _ by (try simp) <;> omega) (Nat.le_refl _)); have P2 := Lib.hid p2; have E2 := Lib.hid e2; have MG2 := Lib.hid (Mid.start (w1.heap.size + 1) w2.heap.size w2); have KW2 := below_via (w := w1) (by go_grown) b2; obtain ⟨gc2, gf2⟩ := below_get b2; (try simp only [heap_drew, World.size_alloc, World.size_setCell] at gc2 gf2); have s2 := below_via (w := w1) (by go_grown) b2; have H2 := below_via H1 s2; have hs2 := b2.size; (try simp at hs2); have z2_0 : w1.heap.size < w2.heap.size := (by omega); clear b2; clear o2 p2 e2)
    (go_wp2_with fail); (go_at_call 7; refine (eqPolicy_c A2 A1 _ c2 _ c1 Rs Rs Re Re _ (OP.rdX (O2.out.mid MG2.out (Nat.le_refl _) (Nat.le_refl _) (by go_grown)) E2.out) ((R1.out.below (show Below _ _ _ from below_via KW2 (by go_grown))).more (by (try simp); omega)) (by omega) (by omega)).mono ?_; rintro e w3 ⟨rfl, b3⟩; have MG3 := Lib.hid (MG2.out.via (by go_grown) b3); have KW3 := below_via KW2 (below_via (by go_grown) b3); obtain ⟨gc3, gf3⟩ := below_get b3; (try simp only [heap_drew, World.size_alloc, World.size_setCell] at gc3 gf3); have s3 := below_via (w := w2) (by go_grown) b3; have H3 := below_via H2 s3; have hs3 := b3.size; (try simp at hs3); have z3_0 : w1.heap.size < w3.heap.size := (by omega); have z3_1 : w2.heap.size < w3.heap.size := (by omega); clear b3)
    (go_wp2_with fail); (go_at_call 8; refine (markPolicy_c (w1.heap.size + 1) w2.heap.size A2 _ c2 Re 1 qs2 _ (O2.out.mid MG3.out (Nat.le_refl _) (Nat.le_refl _) (by go_grown)) P2.out (by (try simp) <;> omega) (by omega) (by have := few_cnt E2.out HF.out; omega)).mono ?_; rintro e w4 ⟨rfl, o4, b4⟩; have O4 := Lib.hid o4; have MG4 := Lib.hid (Mid.start (w1.heap.size + 1) w2.heap.size w4); have KW4 := below_mark KW3 (by go_grown) b4 (by omega); have hs4 := b4.size; (try simp at hs4); have H4 := below_mark H3 (by go_grown) b4 (by omega); have gc4_0 := fun o => keep_cell b4 (b := w1.heap.size) (o := o) (by (try simp); omega) (by omega); have z4_0 : w1.heap.size < w4.heap.size := (by omega); have gc4_1 := fun o => keep_cell b4 (b := w2.heap.size) (o := o) (by (try simp); omega) (by omega); have z4_1 : w2.heap.size < w4.heap.size := (by omega); clear b4; clear o4 MG3)
    (go_wp2_with fail); (go_at_call 9; refine (heldPolicy_c A2 _ c2 Re 1 qs2 _ (OP.rd (O4.out.mid MG4.out (Nat.le_refl _) (Nat.le_refl _) (by go_grown))) (by omega) (by have := few_cnt E2.out HF.out; omega)).mono ?_; rintro e w5 ⟨rfl, b5⟩; have MG5 := Lib.hid (MG4.out.via (by go_grown) b5); have KW5 := below_via KW4 (below_via (by go_grown) b5); obtain ⟨gc5, gf5⟩ := below_get b5; (try simp only [heap_drew, World.size_alloc, World.size_setCell] at gc5 gf5); have s5 := below_via (w := w4) (by go_grown) b5; have H5 := below_via H4 s5; have hs5 := b5.size; (try simp at hs5); have z5_0 : w1.heap.size < w5.heap.size := (by omega); have z5_1 : w2.heap.size < w5.heap.size := (by omega); clear b5)
    (go_wp2_with fail); (go_at_call 6; refine (HI.out _).mono ?_; rintro e w6 ⟨A6, c6, qs6, rfl, e6, o6, p6, b6⟩; have R6 := Lib.hid (o6.rd); rw [e6] at R6; clear o6 p6 e6; have MG6 := Lib.hid (MG5.out.via (by go_grown) b6); have KW6 := below_via KW5 (below_via (by go_grown) b6); obtain ⟨gc6, gf6⟩ := below_get b6; (try simp only [heap_drew, World.size_alloc, World.size_setCell] at gc6 gf6); have s6 := below_via (w := w5) (by go_grown) b6; have H6 := below_via H5 s6; have hs6 := b6.size; (try simp at hs6); have z6_0 : w1.heap.size < w6.heap.size := (by omega); have z6_1 : w2.heap.size < w6.heap.size := (by omega); clear b6)
    (go_wp2_with fail); (go_at_call 7; refine (eqPolicy_c A6 A1 _ c6 _ c1 Rs Rs Re Re _ (R6.out.upB (by go_grown) (by go_size)) ((R1.out.below (show Below _ _ _ from below_via KW6 (by go_grown))).more (by (try simp); omega)) (by omega) (by omega)).mono ?_; rintro e w7 ⟨rfl, b7⟩; have MG7 := Lib.hid (MG6.out.via (by go_grown) b7); obtain ⟨gc7, gf7⟩ := below_get b7; (try simp only [heap_drew, World.size_alloc, World.size_setCell] at gc7 gf7); have s7 := below_via (w := w6) (by go_grown) b7; have H7 := below_via H6 s7; have hs7 := b7.size; (try simp at hs7); have z7_0 : w1.heap.size < w7.heap.size := (by omega); have z7_1 : w2.heap.size < w7.heap.size := (by omega); clear b7)
    (go_wp2_with fail); (go_at_call 9; refine (heldPolicy_c A2 _ c2 Re 1 qs2 _ (OP.rd (O4.out.mid MG7.out (Nat.le_refl _) (Nat.le_refl _) (by go_grown))) (by omega) (by have := few_cnt E2.out HF.out; omega)).mono ?_; rintro e w8 ⟨rfl, b8⟩; obtain ⟨gc8, gf8⟩ := below_get b8; (try simp only [heap_drew, World.size_alloc, World.size_setCell] at gc8 gf8); have s8 := below_via (w := w7) (by go_grown) b8; have H8 := below_via H7 s8; have hs8 := b8.size; (try simp at hs8); clear b8)
    go_wp2
    go_returns
    exact ⟨rfl, by go_grown⟩
  · have hd : decide ((1048576 : Int) < ((str l).size : Int)) = true := by simp; omega
    clear hsz
    generalize str l = L at *
    go_enter Tryd.func3, Tryd.ntmps3
    go_wp2
    go_returns
    exact ⟨rfl, by go_grown⟩
theorem fnExactPolicyRead_w (v0 : Value) (w : World) (h0 : IsStr w v0) : Calls Tryd.prog 3 #[v0] w (RetB (.bool true) w) := by
  obtain ⟨s, rfl, hs⟩ := h0
  rw [← str_of s]
  exact policyRead_law s.data.toList (by unfold maxLen at hs; simp; omega) w
set_option maxRecDepth 100000 in
theorem fnExactPolicyRead_lifted (os : Os) (started : os.Started) (H : Type) (enc : TypeId × Value → H) :
    ReturnsInHanded {} Tryd.checked os 3 .any (fun w args => (Rows.fnExactPolicyReadSpec.pre enc Tryd.prog Tryd.f3 [] false w args ∧ laidMetH Tryd.prog Rows.fnExactPolicyReadRow.laid w) ∧ sizedMet enc Tryd.prog Tryd.f3 (OpenSpec.ofChange Rows.fnExactPolicyReadSpec) false w args)
      (Rows.fnExactPolicyReadSpec.post enc Tryd.prog Tryd.f3 false true false false) := by
  refine returnsInHanded_of_change_and (C := Tryd.checked) (X := fun w _ => laidMetH Tryd.prog Rows.fnExactPolicyReadRow.laid w) (fun _ _ _ hh h => h.of_heap hh) own started (by kernel_rfl) Tryd.func3
    (ChangeSpec.witness_shaped (enc := enc) (C := Tryd.checked) (os := os) (X := fun w _ => laidMetH Tryd.prog Rows.fnExactPolicyReadRow.laid w) false (World.laidAll Tryd.prog os Rows.fnExactPolicyReadRow.laid) #[.string ByteArray.empty] 8 (World.laidAll_os _ _ _) (World.shaped_of_ZipB (by kernel_rfl) (by kernel_rfl)) (by kernel_rfl) (by kernel_rfl) (by kernel_rfl) (by rw [MakeChecks.laidMetH_plain _ _ _ (by kernel_rfl)]; exact laidMet_laidAll _ (by kernel_rfl) (by kernel_rfl))) ?_
  intro W base args ds gs before hval0 hW _ _ hL _
  have hval : ∀ (j : Nat) t v, Tryd.f3.params[j]? = some t → args[j]? = some v → Value.okWide Tryd.prog W .any base t v := hval0
  have hW' := hW
  obtain ⟨p, q, hA0, hV, rfl, hfz, hnd⟩ := hW
  have hA : DataW.TrodAll enc Tryd.prog W 0 (fun _ => true) true Tryd.f3.params.toList args.toList ds p := hA0
  rw [Tryd.params3] at hA hval
  obtain ⟨v0, vs0, d0, ds0, p0, q0, hargs, rfl, rfl, h0, r0⟩ := trodAll_cons hA
  obtain ⟨rfl, rfl, rfl⟩ := trodAll_nil r0
  obtain rfl : args = #[v0] := by cases args; simp_all
  obtain ⟨rfl, rfl⟩ := trodVars_none hV
  have k0 := h0
  have lt0 : ∀ x ∈ p0, x.block < W.heap.size := by obtain ⟨m, hm⟩ := k0; exact DataW.trod_lt m _ _ _ hm
  have o0 := open_Str (hval 0 9 v0 rfl rfl) h0
  clear hA0 hval0
  refine (fnExactPolicyRead_w v0 W o0).mono fun e W' ⟨he, bel⟩ => ?_
  subst he
  exact ⟨_, rfl, _, _, _, [], _, [], hW', trodAll_mk1 (shut_bool Tryd.underlying4 _), (trodAll_cons_mk (Below.trod laidOut (by kernel_rfl) (of_decide_eq_true (by kernel_rfl)) k0 bel lt0) trodAll_mk0), rfl, bel.frame _, fun h => by cases h⟩

theorem fnExactPolicyRead_holds : Rows.FnExactPolicyReadSaid :=
  OpenClaim.holds_of_wide 3 Tryd.f3 rfl rfl rfl rfl rfl rfl rfl ⟨rfl, rfl, rfl, rfl, rfl⟩ rfl rfl rfl rfl rfl (by kernel_rfl) Tryd.func3 (by kernel_rfl)
    (of_decide_eq_true (by kernel_rfl)) (by unfold Func.isWrapper; rw [if_neg (of_decide_eq_false (by kernel_rfl))]; exact ⟨rfl, rfl⟩)
    (fun os started H enc _ => fnExactPolicyRead_lifted os started H enc)
theorem fnExactPolicyRead_card : Rows.FnExactPolicyReadCardSaid :=
  Claim7.holds_tied_plain_at .later [] [.data, .pinned] true (true, "7d3d068f4cd3a684ccb4ae3a76b4a8261afce71b158d63827da79cdd2f2f3917") true
    fnExactPolicyRead_holds (fun _ h => by cases h) (by kernel_rfl) (fun _ h => by cases h) fnExactPolicyRead_row_tie rfl ⟨rfl, rfl⟩ (by kernel_rfl) rfl
    (fun f fn hf hfn => by
      obtain rfl : f = 3 := Option.some.inj ((show Tryd.prog.funcNamed "loop.example/gatelodge/laws.FnExactPolicyRead" = some 3 by kernel_rfl).symm.trans hf) |>.symm
      obtain rfl : fn = Tryd.f3 := (Option.some.inj (Tryd.func3.symm.trans hfn)).symm
      exact ⟨by kernel_rfl, fun j t ht => by
        rw [Tryd.params3] at ht
        have hm : t ∈ [9] := by simpa using Array.mem_of_getElem? ht
        have hall : ([9].all fun u => !Tryd.prog.wantsStandIn u) = true := by kernel_rfl
        exact (show Tryd.prog.wantsStandIn t = false by simpa using List.all_eq_true.1 hall t hm)⟩)
    (by kernel_rfl)
#print axioms fnExactPolicyRead_card
end Go.Proofs.YtflhniobbdanjaaDoor
