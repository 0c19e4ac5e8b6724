/- FnPolicyNone: for all drawn bytes the law returns true: a policy without rules, ahead of another one or behind it, adds nothing but what is said of all else. The tables are tied to the program's text. No condition. -/
import Derived.Test.YtljgaepgblakhaaDoorJoinY
import Derived.Test.YtljgaepgblakhaaDoorRegInv2
namespace Go.Proofs.YtljgaepgblakhaaDoor
set_option linter.unusedSimpArgs false
open Go.ChangeShapes Go.WideShapes Go.ChangeAt Go.RowKit
set_option linter.unusedVariables false
set_option linter.unnecessarySimpa false
theorem fit_i (rs : List Rl) (els num : Int) (zs : List Int) (hn : rs.length ≤ 9223372036854775807) (hm : zs.length ≤ 9223372036854775807) : ∃ (F : Int), F = polFitV ⟨rs, els⟩ num zs ∧
    (∀ A c B d W, RdR W W.heap.size A rs.length rs → Rd W W.heap.size 1 B zs.length (ints zs) → PT W W.heap.size → Calls Tryd.prog 28 #[.agg #[.slice A rs.length c, .int .i64 els], .agg #[.int .i64 num, .slice B zs.length d]] W (RetB (.int .i64 F) W)) :=
  ⟨_, rfl, fun A c B d W h1 h2 h3 => policyFit_c A _ c rs els num B _ d zs W hn hm h1 h2 h3⟩
set_option maxHeartbeats 8000000 in
set_option maxRecDepth 100000 in
theorem fnPolicyNone_law (A : Option Addr) (n c : Nat) (xs : List Int) (B : Option Addr) (m d : Nat) (ys : List Int) (w : World) (hr : Rd w w.heap.size 1 A n (u8s xs)) (hx : ∀ x ∈ xs, 0 ≤ x ∧ x ≤ 255) (hc : n ≤ c) (hc2 : c ≤ 9223372036854775807)
    (hq : Rd w w.heap.size 1 B m (u8s ys)) (hy : ∀ x ∈ ys, 0 ≤ x ∧ x ≤ 255) (hd : m ≤ d) (hd2 : d ≤ 9223372036854775807) (hp : PT w w.heap.size) :
    Calls Tryd.prog 6 #[.slice A n c, .slice B m d] w (RetB (.bool true) w) := by
  have HR := Lib.hid hr
  have HX := Lib.hid hx
  have HQ := Lib.hid hq
  have HY := Lib.hid hy
  have HP := Lib.hid hp
  clear hr hx hq hy hp
  by_cases h1 : n ≤ 1048576
  · have k1 : decide (1048576 < (n : Int)) = false := by simp; omega
    by_cases h2 : m ≤ 1048576
    · have k2 : decide (1048576 < (m : Int)) = false := by simp; omega
      go_enter Tryd.func6, Tryd.ntmps6
      (go_wp2_with fail); (go_at_call 29; refine (drawJoin_c A n c xs _ (HR.out.upB (by go_grown) (by go_size)) HX.out hc hc2).mono ?_; rintro e w1 ⟨PA, pn, pc, qs, pe, QA, qn, qc, qs2, qe, rfl, o1, hpn, hl1, o2, hqn, hl2, b1⟩; have RP := Lib.hid o1.rd; clear o1 o2 hl1 hl2; obtain ⟨gc1, gf1⟩ := below_get b1; (try simp only [heap_drew, World.size_alloc, World.size_setCell] at gc1 gf1); have s1 := below_via (w := w) (by go_grown) b1; have H1 := s1; have hs1 := b1.size; (try simp at hs1); clear b1)
      generalize rls qs = rs at *
      have hl1 := RP.out.1
      subst hl1
      clear hqn
      obtain ⟨Rs, Re, ok, hok, hfew, hJS, hJI⟩ := join_y [] qe rs pe (by simp) (by omega)
      obtain ⟨Ss, Se, fine, hok2, hfew2, _, hJI2⟩ := join_y rs pe [] qe (by omega) (by simp)
      have HOK := Lib.hid hok
      have HOK2 := Lib.hid hok2
      have HJS := Lib.hid hJS
      have HJI := Lib.hid hJI
      have HJI2 := Lib.hid hJI2
      have hfl := hfew.1
      clear hok hJS hJI hfew hok2 hfew2 hJI2
      obtain ⟨pok, epok, hKI, hKS⟩ := ok_x rs pe (by omega)
      have HKI := Lib.hid hKI
      have HKS := Lib.hid hKS
      have EPK := Lib.hid epok
      clear hKI hKS epok
      (go_wp2_with fail); (go_at_call 30; refine (HJI.out _ _ _ _ _ RdR.nil_ (RP.out.upB (by go_grown) (by go_size)) ((HP.out.below (show Below w.heap.size w _ from below_via H1 (by go_grown))).more (by (try simp); omega))).mono ?_; rintro e w2 ⟨A2, c2, qs3, rfl, e2, o2, p2, b2⟩; have R2 := Lib.hid (o2.rd); rw [e2] at R2; clear o2 p2 e2; obtain ⟨gc2, gf2⟩ := below_get b2; (try simp only [heap_drew, World.size_alloc, World.size_setCell] at gc2 gf2); have s2 := below_via (w := w1) (by go_grown) b2; have H2 := below_via H1 s2; have hs2 := b2.size; (try simp at hs2); have z2_0 : w1.heap.size < w2.heap.size := (by omega); have z2_1 : w1.heap.size + 1 < w2.heap.size := (by omega); clear b2)
      (go_wp2_with fail); (go_at_call 30; refine (HJI2.out _ _ _ _ _ ((RP.out.up s2).upB (by go_grown) (by go_size)) RdR.nil_ ((HP.out.below (show Below w.heap.size w _ from below_via H2 (by go_grown))).more (by (try simp); omega))).mono ?_; rintro e w3 ⟨A3, c3, qs4, rfl, e3, o3, p3, b3⟩; have R3 := Lib.hid (o3.rd); rw [e3] at R3; clear o3 p3 e3; obtain ⟨gc3, gf3⟩ := below_get b3; (try simp only [heap_drew, World.size_alloc, World.size_setCell] at gc3 gf3); have s3 := below_via (w := w2) (by go_grown) b3; have H3 := below_via H2 s3; have hs3 := b3.size; (try simp at hs3); have z3_0 : w1.heap.size < w3.heap.size := (by omega); have z3_1 : w1.heap.size + 1 < w3.heap.size := (by omega); have z3_2 : w2.heap.size < w3.heap.size := (by omega); clear b3)
      (go_wp2_with fail); (go_at_call 31; refine (HJS.out _ _ _ _ _ RdR.nil_ (((RP.out.up s2).up s3).upB (by go_grown) (by go_size))).mono ?_; rintro e w4 ⟨A4, c4, qs5, rfl, e4, o4, p4, b4⟩; have R4 := Lib.hid (o4.rd); rw [e4] at R4; clear o4 p4 e4; obtain ⟨gc4, gf4⟩ := below_get b4; (try simp only [heap_drew, World.size_alloc, World.size_setCell] at gc4 gf4); have s4 := below_via (w := w3) (by go_grown) b4; have H4 := below_via H3 s4; have hs4 := b4.size; (try simp at hs4); have z4_0 : w1.heap.size < w4.heap.size := (by omega); have z4_1 : w1.heap.size + 1 < w4.heap.size := (by omega); have z4_2 : w2.heap.size < w4.heap.size := (by omega); have z4_3 : w3.heap.size < w4.heap.size := (by omega); clear b4)
      clear HJS HJI HJI2
      cases ok with
      | false =>
        clear HOK HOK2 EPK
        have R24 : Hid (RdR w4 w4.heap.size A2 Rs.length Rs) := Lib.hid ((((R2.out.up s3).up s4).upB (by go_grown) (by go_size)))
        have RP4 : Hid (RdR w4 w4.heap.size PA rs.length rs) := Lib.hid (((((RP.out.up s2).up s3).up s4).upB (by go_grown) (by go_size)))
        have HP4 : Hid (PT w4 w4.heap.size) := Lib.hid (((HP.out.below (show Below w.heap.size w _ from below_via H4 (by go_grown))).more (by (try simp); omega)))
        go_wp2_with fail
        refine wp_region_invG [some 52, some 53, some 54, some 55, some 56, some 57, some 58, some 59, some 60, some 61, some 62, some 63, some 64, some 65, some 66, some 67, some 68, some 69, some 70, some 71, some 72, some 73, some 74, some 75]
          (fun _ W0 => Below w4.heap.size w4 W0 ∧ W0.cell? ⟨w1.heap.size, 0, none⟩ = some (.slice PA rs.length pc) ∧ W0.cell? ⟨w1.heap.size, 1, none⟩ = some (.int .i64 pe) ∧ W0.cell? ⟨w2.heap.size, 0, none⟩ = some (.slice A2 Rs.length c2) ∧ W0.cell? ⟨w2.heap.size, 1, none⟩ = some (.int .i64 Re) ∧ W0.cell? ⟨w4.heap.size, 0, none⟩ = some (.slice A4 Rs.length c4) ∧ W0.cell? ⟨w4.heap.size, 1, none⟩ = some (.int .i64 Re))
          (fun j x _ => match j with | 0 => x = .bool false | 1 => x = .bool false | 2 => x = .bool false | 3 => x = .bool false | 4 => x = .agg #[.slice A2 Rs.length c2, .int .i64 Re] | 5 => x = .agg #[.slice A4 Rs.length c4, .int .i64 Re] | 6 => x = .bool true | 7 => x = .bool false | 8 => x = .bool false | 9 => x = .bool false | 10 => x = .agg #[.slice PA rs.length pc, .int .i64 pe] | 11 => x = .bool pok | 12 => x = .agg #[.slice PA rs.length pc, .int .i64 pe] | 13 => x = .bool pok | 14 => x = .bool false | 15 => x = .bool false | 16 => x = .bool false | 17 => x = .bool false | 18 => x = .bool true | 19 => x = .bool true | 20 => x = .bool true | 21 => x = undef | 22 => x = undef | 23 => x = .bool true | _ => True) (by kernel_rfl) (by kernel_rfl) (by refine ⟨by go_grown, ?_, ?_, ?_, ?_, ?_, ?_⟩ <;> simp [go_sem, *]) ?_ ?_
        · simp only [setAll, putS, List.zipIdx_cons, List.zipIdx_nil, List.foldl_cons, List.foldl_nil, Nat.reduceAdd, List.setIfInBounds_toArray, List.set_cons_zero, List.set_cons_succ]
          refine ⟨fun u w0 c0 hc0 hW hd K hK => ?_, ?_⟩
          · obtain ⟨hB, hc0, hc1, hc2, hc3, hc4, hc5⟩ := hW
            refine if_yes rfl ?_
            go_simp
            refine ka (hK (.bool false) w0 ⟨hB, hc0, hc1, hc2, hc3, hc4, hc5⟩ (fun _ _ h => h) rfl) ?_
            simp [updU, *]
          refine ⟨fun u w0 c0 hc0 hW hd K hK => ?_, ?_⟩
          · obtain ⟨hB, hc0, hc1, hc2, hc3, hc4, hc5⟩ := hW
            refine if_yes rfl ?_
            go_simp
            refine ka (hK (.bool false) w0 ⟨hB, hc0, hc1, hc2, hc3, hc4, hc5⟩ (fun _ _ h => h) rfl) ?_
            simp [updU, *]
          refine ⟨fun u w0 c0 hc0 hW hd K hK => ?_, ?_⟩
          · obtain ⟨hB, hc0, hc1, hc2, hc3, hc4, hc5⟩ := hW
            have e0 : u 0 = .bool false := hd 0 (of_decide_eq_true (by kernel_rfl))
            have e1 : u 1 = .bool false := hd 1 (of_decide_eq_true (by kernel_rfl))
            refine if_yes rfl ?_
            go_simp
            refine ka (hK (.bool false) w0 ⟨hB, hc0, hc1, hc2, hc3, hc4, hc5⟩ (fun _ _ h => h) rfl) ?_
            simp [updU, *]
          refine ⟨fun u w0 c0 hc0 hW hd K hK => ?_, ?_⟩
          · obtain ⟨hB, hc0, hc1, hc2, hc3, hc4, hc5⟩ := hW
            have e2 : u 2 = .bool false := hd 2 (of_decide_eq_true (by kernel_rfl))
            refine if_yes rfl ?_
            go_simp
            refine ka (hK (.bool false) w0 ⟨hB, hc0, hc1, hc2, hc3, hc4, hc5⟩ (fun _ _ h => h) rfl) ?_
            simp [updU, *]
          refine ⟨fun u w0 c0 hc0 hW hd K hK => ?_, ?_⟩
          · obtain ⟨hB, hc0, hc1, hc2, hc3, hc4, hc5⟩ := hW
            have e3 : u 3 = .bool false := hd 3 (of_decide_eq_true (by kernel_rfl))
            refine if_yes (by rw [wanted_of (j := 3) (s := 55) (want := false) (b := false) rfl rfl (by first | exact congrArg some e3 | simp [e3])]; rfl) ?_
            go_simp
            refine ka (hK (.agg #[.slice A2 Rs.length c2, .int .i64 Re]) w0 ⟨hB, hc0, hc1, hc2, hc3, hc4, hc5⟩ (fun _ _ h => h) rfl) ?_
            simp [updU, *]
          refine ⟨fun u w0 c0 hc0 hW hd K hK => ?_, ?_⟩
          · obtain ⟨hB, hc0, hc1, hc2, hc3, hc4, hc5⟩ := hW
            have e3 : u 3 = .bool false := hd 3 (of_decide_eq_true (by kernel_rfl))
            refine if_yes (by rw [wanted_of (j := 3) (s := 55) (want := false) (b := false) rfl rfl (by first | exact congrArg some e3 | simp [e3])]; rfl) ?_
            go_simp
            refine ka (hK (.agg #[.slice A4 Rs.length c4, .int .i64 Re]) w0 ⟨hB, hc0, hc1, hc2, hc3, hc4, hc5⟩ (fun _ _ h => h) rfl) ?_
            simp [updU, *]
          refine ⟨fun u w0 c0 hc0 hW hd K hK => ?_, ?_⟩
          · obtain ⟨hB, hc0, hc1, hc2, hc3, hc4, hc5⟩ := hW
            have e3 : u 3 = .bool false := hd 3 (of_decide_eq_true (by kernel_rfl))
            have e4 : u 4 = .agg #[.slice A2 Rs.length c2, .int .i64 Re] := hd 4 (of_decide_eq_true (by kernel_rfl))
            have e5 : u 5 = .agg #[.slice A4 Rs.length c4, .int .i64 Re] := hd 5 (of_decide_eq_true (by kernel_rfl))
            refine if_yes (by rw [wanted_of (j := 3) (s := 55) (want := false) (b := false) rfl rfl (by first | exact congrArg some e3 | simp [e3])]; rfl) ?_
            go_simp
            (go_at_call 22; refine (wgPolicy_c A2 A4 c2 c4 Rs Re _ (R24.out.upB hB hB.size) (R4.out.upB hB hB.size) (by omega)).mono ?_; rintro e w5 ⟨rfl, b5⟩; (refine ka (hK (.bool true) w5 ⟨below_via hB b5, cell_up hc0 b5, cell_up hc1 b5, cell_up hc2 b5, cell_up hc3 b5, cell_up hc4 b5, cell_up hc5 b5⟩ (fun _ _ h => h) rfl) ?_); (simp [updU, *]))
          refine ⟨fun u w0 c0 hc0 hW hd K hK => ?_, ?_⟩
          · obtain ⟨hB, hc0, hc1, hc2, hc3, hc4, hc5⟩ := hW
            have e3 : u 3 = .bool false := hd 3 (of_decide_eq_true (by kernel_rfl))
            have e6 : u 6 = .bool true := hd 6 (of_decide_eq_true (by kernel_rfl))
            refine if_yes (by rw [wanted_of (j := 3) (s := 55) (want := false) (b := false) rfl rfl (by first | exact congrArg some e3 | simp [e3])]; rfl) ?_
            go_simp
            refine ka (hK (.bool false) w0 ⟨hB, hc0, hc1, hc2, hc3, hc4, hc5⟩ (fun _ _ h => h) rfl) ?_
            simp [updU, *]
          refine ⟨fun u w0 c0 hc0 hW hd K hK => ?_, ?_⟩
          · obtain ⟨hB, hc0, hc1, hc2, hc3, hc4, hc5⟩ := hW
            have e3 : u 3 = .bool false := hd 3 (of_decide_eq_true (by kernel_rfl))
            have e7 : u 7 = .bool false := hd 7 (of_decide_eq_true (by kernel_rfl))
            refine if_yes rfl ?_
            go_simp
            refine ka (hK (.bool false) w0 ⟨hB, hc0, hc1, hc2, hc3, hc4, hc5⟩ (fun _ _ h => h) rfl) ?_
            simp [updU, *]
          refine ⟨fun u w0 c0 hc0 hW hd K hK => ?_, ?_⟩
          · obtain ⟨hB, hc0, hc1, hc2, hc3, hc4, hc5⟩ := hW
            have e6 : u 6 = .bool true := hd 6 (of_decide_eq_true (by kernel_rfl))
            have e8 : u 8 = .bool false := hd 8 (of_decide_eq_true (by kernel_rfl))
            refine if_yes rfl ?_
            go_simp
            refine ka (hK (.bool false) w0 ⟨hB, hc0, hc1, hc2, hc3, hc4, hc5⟩ (fun _ _ h => h) rfl) ?_
            simp [updU, *]
          refine ⟨fun u w0 c0 hc0 hW hd K hK => ?_, ?_⟩
          · obtain ⟨hB, hc0, hc1, hc2, hc3, hc4, hc5⟩ := hW
            have e9 : u 9 = .bool false := hd 9 (of_decide_eq_true (by kernel_rfl))
            refine if_yes (by rw [wanted_of (j := 9) (s := 61) (want := false) (b := false) rfl rfl (by first | exact congrArg some e9 | simp [e9])]; rfl) ?_
            go_simp
            refine ka (hK (.agg #[.slice PA rs.length pc, .int .i64 pe]) w0 ⟨hB, hc0, hc1, hc2, hc3, hc4, hc5⟩ (fun _ _ h => h) rfl) ?_
            simp [updU, *]
          refine ⟨fun u w0 c0 hc0 hW hd K hK => ?_, ?_⟩
          · obtain ⟨hB, hc0, hc1, hc2, hc3, hc4, hc5⟩ := hW
            have e9 : u 9 = .bool false := hd 9 (of_decide_eq_true (by kernel_rfl))
            have e10 : u 10 = .agg #[.slice PA rs.length pc, .int .i64 pe] := hd 10 (of_decide_eq_true (by kernel_rfl))
            refine if_yes (by rw [wanted_of (j := 9) (s := 61) (want := false) (b := false) rfl rfl (by first | exact congrArg some e9 | simp [e9])]; rfl) ?_
            go_simp
            (go_at_call 17; refine (HKI.out _ _ _ (RP4.out.upB hB hB.size) (HP4.out.upB hB hB.size)).mono ?_; rintro e w5 ⟨rfl, b5⟩; (refine ka (hK (.bool pok) w5 ⟨below_via hB b5, cell_up hc0 b5, cell_up hc1 b5, cell_up hc2 b5, cell_up hc3 b5, cell_up hc4 b5, cell_up hc5 b5⟩ (fun _ _ h => h) rfl) ?_); (simp [updU, *]))
          refine ⟨fun u w0 c0 hc0 hW hd K hK => ?_, ?_⟩
          · obtain ⟨hB, hc0, hc1, hc2, hc3, hc4, hc5⟩ := hW
            have e9 : u 9 = .bool false := hd 9 (of_decide_eq_true (by kernel_rfl))
            refine if_yes (by rw [wanted_of (j := 9) (s := 61) (want := false) (b := false) rfl rfl (by first | exact congrArg some e9 | simp [e9])]; rfl) ?_
            go_simp
            refine ka (hK (.agg #[.slice PA rs.length pc, .int .i64 pe]) w0 ⟨hB, hc0, hc1, hc2, hc3, hc4, hc5⟩ (fun _ _ h => h) rfl) ?_
            simp [updU, *]
          refine ⟨fun u w0 c0 hc0 hW hd K hK => ?_, ?_⟩
          · obtain ⟨hB, hc0, hc1, hc2, hc3, hc4, hc5⟩ := hW
            have e9 : u 9 = .bool false := hd 9 (of_decide_eq_true (by kernel_rfl))
            have e11 : u 11 = .bool pok := hd 11 (of_decide_eq_true (by kernel_rfl))
            have e12 : u 12 = .agg #[.slice PA rs.length pc, .int .i64 pe] := hd 12 (of_decide_eq_true (by kernel_rfl))
            refine if_yes (by rw [wanted_of (j := 9) (s := 61) (want := false) (b := false) rfl rfl (by first | exact congrArg some e9 | simp [e9])]; rfl) ?_
            go_simp
            (go_at_call 18; refine (HKS.out _ _ _ (RP4.out.upB hB hB.size)).mono ?_; rintro e w5 ⟨rfl, b5⟩; (refine ka (hK (.bool pok) w5 ⟨below_via hB b5, cell_up hc0 b5, cell_up hc1 b5, cell_up hc2 b5, cell_up hc3 b5, cell_up hc4 b5, cell_up hc5 b5⟩ (fun _ _ h => h) rfl) ?_); (simp [updU, *]))
          refine ⟨fun u w0 c0 hc0 hW hd K hK => ?_, ?_⟩
          · obtain ⟨hB, hc0, hc1, hc2, hc3, hc4, hc5⟩ := hW
            have e9 : u 9 = .bool false := hd 9 (of_decide_eq_true (by kernel_rfl))
            have e11 : u 11 = .bool pok := hd 11 (of_decide_eq_true (by kernel_rfl))
            have e13 : u 13 = .bool pok := hd 13 (of_decide_eq_true (by kernel_rfl))
            refine if_yes (by rw [wanted_of (j := 9) (s := 61) (want := false) (b := false) rfl rfl (by first | exact congrArg some e9 | simp [e9])]; rfl) ?_
            go_simp
            refine ka (hK (.bool false) w0 ⟨hB, hc0, hc1, hc2, hc3, hc4, hc5⟩ (fun _ _ h => h) rfl) ?_
            simp [updU, *]
          refine ⟨fun u w0 c0 hc0 hW hd K hK => ?_, ?_⟩
          · obtain ⟨hB, hc0, hc1, hc2, hc3, hc4, hc5⟩ := hW
            have e9 : u 9 = .bool false := hd 9 (of_decide_eq_true (by kernel_rfl))
            have e14 : u 14 = .bool false := hd 14 (of_decide_eq_true (by kernel_rfl))
            refine if_yes rfl ?_
            go_simp
            refine ka (hK (.bool false) w0 ⟨hB, hc0, hc1, hc2, hc3, hc4, hc5⟩ (fun _ _ h => h) rfl) ?_
            simp [updU, *]
          refine ⟨fun u w0 c0 hc0 hW hd K hK => ?_, ?_⟩
          · obtain ⟨hB, hc0, hc1, hc2, hc3, hc4, hc5⟩ := hW
            have e13 : u 13 = .bool pok := hd 13 (of_decide_eq_true (by kernel_rfl))
            have e15 : u 15 = .bool false := hd 15 (of_decide_eq_true (by kernel_rfl))
            refine if_yes rfl ?_
            go_simp
            refine ka (hK (.bool false) w0 ⟨hB, hc0, hc1, hc2, hc3, hc4, hc5⟩ (fun _ _ h => h) rfl) ?_
            simp [updU, *]
          refine ⟨fun u w0 c0 hc0 hW hd K hK => ?_, ?_⟩
          · obtain ⟨hB, hc0, hc1, hc2, hc3, hc4, hc5⟩ := hW
            have e16 : u 16 = .bool false := hd 16 (of_decide_eq_true (by kernel_rfl))
            refine if_yes (by rw [wanted_of (j := 16) (s := 68) (want := false) (b := false) rfl rfl (by first | exact congrArg some e16 | simp [e16])]; rfl) ?_
            go_simp
            refine ka (hK (.bool false) w0 ⟨hB, hc0, hc1, hc2, hc3, hc4, hc5⟩ (fun _ _ h => h) rfl) ?_
            simp [updU, *]
          refine ⟨fun u w0 c0 hc0 hW hd K hK => ?_, ?_⟩
          · obtain ⟨hB, hc0, hc1, hc2, hc3, hc4, hc5⟩ := hW
            have e16 : u 16 = .bool false := hd 16 (of_decide_eq_true (by kernel_rfl))
            have e17 : u 17 = .bool false := hd 17 (of_decide_eq_true (by kernel_rfl))
            refine if_yes (by rw [wanted_of (j := 16) (s := 68) (want := false) (b := false) rfl rfl (by first | exact congrArg some e16 | simp [e16])]; rfl) ?_
            go_simp
            refine ka (hK (.bool true) w0 ⟨hB, hc0, hc1, hc2, hc3, hc4, hc5⟩ (fun _ _ h => h) rfl) ?_
            simp [updU, *]
          refine ⟨fun u w0 c0 hc0 hW hd K hK => ?_, ?_⟩
          · obtain ⟨hB, hc0, hc1, hc2, hc3, hc4, hc5⟩ := hW
            have e16 : u 16 = .bool false := hd 16 (of_decide_eq_true (by kernel_rfl))
            have e18 : u 18 = .bool true := hd 18 (of_decide_eq_true (by kernel_rfl))
            refine if_yes rfl ?_
            go_simp
            refine ka (hK (.bool true) w0 ⟨hB, hc0, hc1, hc2, hc3, hc4, hc5⟩ (fun _ _ h => h) rfl) ?_
            simp [updU, *]
          refine ⟨fun u w0 c0 hc0 hW hd K hK => ?_, ?_⟩
          · obtain ⟨hB, hc0, hc1, hc2, hc3, hc4, hc5⟩ := hW
            have e16 : u 16 = .bool false := hd 16 (of_decide_eq_true (by kernel_rfl))
            have e19 : u 19 = .bool true := hd 19 (of_decide_eq_true (by kernel_rfl))
            refine if_yes rfl ?_
            go_simp
            refine ka (hK (.bool true) w0 ⟨hB, hc0, hc1, hc2, hc3, hc4, hc5⟩ (fun _ _ h => h) rfl) ?_
            simp [updU, *]
          refine ⟨fun u w0 c0 hc0 hW hd K hK => ?_, ?_⟩
          · obtain ⟨hB, hc0, hc1, hc2, hc3, hc4, hc5⟩ := hW
            have e20 : u 20 = .bool true := hd 20 (of_decide_eq_true (by kernel_rfl))
            refine if_no (by rw [wanted_of (j := 20) (s := 72) (want := false) (b := true) rfl rfl (by first | exact congrArg some e20 | simp [e20])]; decide) ?_
            (try simp only [Act.put, Nat.reduceAdd, List.setIfInBounds_toArray, List.set_cons_zero, List.set_cons_succ])
            refine ka (hK (undef) w0 ⟨hB, hc0, hc1, hc2, hc3, hc4, hc5⟩ (fun _ _ h => h) rfl) ?_
            simp [updU]
          refine ⟨fun u w0 c0 hc0 hW hd K hK => ?_, ?_⟩
          · obtain ⟨hB, hc0, hc1, hc2, hc3, hc4, hc5⟩ := hW
            have e20 : u 20 = .bool true := hd 20 (of_decide_eq_true (by kernel_rfl))
            have e21 : u 21 = undef := hd 21 (of_decide_eq_true (by kernel_rfl))
            refine if_no (by rw [wanted_of (j := 20) (s := 72) (want := false) (b := true) rfl rfl (by first | exact congrArg some e20 | simp [e20])]; decide) ?_
            (try simp only [Act.put, Nat.reduceAdd, List.setIfInBounds_toArray, List.set_cons_zero, List.set_cons_succ])
            refine ka (hK (undef) w0 ⟨hB, hc0, hc1, hc2, hc3, hc4, hc5⟩ (fun _ _ h => h) rfl) ?_
            simp [updU]
          refine ⟨fun u w0 c0 hc0 hW hd K hK => ?_, ?_⟩
          · obtain ⟨hB, hc0, hc1, hc2, hc3, hc4, hc5⟩ := hW
            have e20 : u 20 = .bool true := hd 20 (of_decide_eq_true (by kernel_rfl))
            have e22 : u 22 = undef := hd 22 (of_decide_eq_true (by kernel_rfl))
            refine if_yes rfl ?_
            go_simp
            refine ka (hK (.bool true) w0 ⟨hB, hc0, hc1, hc2, hc3, hc4, hc5⟩ (fun _ _ h => h) rfl) ?_
            simp [updU, *]
          exact trivial
        · intro u w7 hW hV
          obtain ⟨hB, hc0, hc1, hc2, hc3, hc4, hc5⟩ := hW
          have e0 : u 0 = .bool false := hV 0 (by decide)
          have e1 : u 1 = .bool false := hV 1 (by decide)
          have e2 : u 2 = .bool false := hV 2 (by decide)
          have e3 : u 3 = .bool false := hV 3 (by decide)
          have e4 : u 4 = .agg #[.slice A2 Rs.length c2, .int .i64 Re] := hV 4 (by decide)
          have e5 : u 5 = .agg #[.slice A4 Rs.length c4, .int .i64 Re] := hV 5 (by decide)
          have e6 : u 6 = .bool true := hV 6 (by decide)
          have e7 : u 7 = .bool false := hV 7 (by decide)
          have e8 : u 8 = .bool false := hV 8 (by decide)
          have e9 : u 9 = .bool false := hV 9 (by decide)
          have e10 : u 10 = .agg #[.slice PA rs.length pc, .int .i64 pe] := hV 10 (by decide)
          have e11 : u 11 = .bool pok := hV 11 (by decide)
          have e12 : u 12 = .agg #[.slice PA rs.length pc, .int .i64 pe] := hV 12 (by decide)
          have e13 : u 13 = .bool pok := hV 13 (by decide)
          have e14 : u 14 = .bool false := hV 14 (by decide)
          have e15 : u 15 = .bool false := hV 15 (by decide)
          have e16 : u 16 = .bool false := hV 16 (by decide)
          have e17 : u 17 = .bool false := hV 17 (by decide)
          have e18 : u 18 = .bool true := hV 18 (by decide)
          have e19 : u 19 = .bool true := hV 19 (by decide)
          have e20 : u 20 = .bool true := hV 20 (by decide)
          have e21 : u 21 = undef := hV 21 (by decide)
          have e22 : u 22 = undef := hV 22 (by decide)
          have e23 : u 23 = .bool true := hV 23 (by decide)
          simp only [setAll, putS, List.zipIdx_cons, List.zipIdx_nil, List.foldl_cons, List.foldl_nil, Nat.reduceAdd, List.setIfInBounds_toArray, List.set_cons_zero, List.set_cons_succ]
          simp only [e0, e1, e2, e3, e4, e5, e6, e7, e8, e9, e10, e11, e12, e13, e14, e15, e16, e17, e18, e19, e20, e21, e22, e23]
          clear hV e0 e1 e2 e3 e4 e5 e6 e7 e8 e9 e10 e11 e12 e13 e14 e15 e16 e17 e18 e19 e20 e21 e22 e23 
          go_wp2_with fail
          refine wp_region_invG [some 76, some 77, some 78, some 79, some 80, some 81, some 82, some 83, some 84, some 85, some 86, some 87, some 88, some 89, some 90, some 4]
            (fun _ W0 => Below w4.heap.size w4 W0 ∧ W0.cell? ⟨w1.heap.size, 0, none⟩ = some (.slice PA rs.length pc) ∧ W0.cell? ⟨w1.heap.size, 1, none⟩ = some (.int .i64 pe) ∧ W0.cell? ⟨w2.heap.size, 0, none⟩ = some (.slice A2 Rs.length c2) ∧ W0.cell? ⟨w2.heap.size, 1, none⟩ = some (.int .i64 Re) ∧ W0.cell? ⟨w4.heap.size, 0, none⟩ = some (.slice A4 Rs.length c4) ∧ W0.cell? ⟨w4.heap.size, 1, none⟩ = some (.int .i64 Re))
            (fun j x _ => match j with | 0 => x = .bool false | 1 => x = .bool false | 2 => x = .bool true | 3 => x = .bool true | 4 => x = .agg #[.slice A2 Rs.length c2, .int .i64 Re] | 5 => x = .agg #[.slice A4 Rs.length c4, .int .i64 Re] | 6 => x = .bool true | 7 => x = .bool true | 8 => x = .bool true | 9 => x = .agg #[.slice PA rs.length pc, .int .i64 pe] | 10 => x = .bool pok | 11 => x = .agg #[.slice PA rs.length pc, .int .i64 pe] | 12 => x = .bool pok | 13 => x = .bool true | 14 => x = .bool true | 15 => x = .bool true | _ => True) (by kernel_rfl) (by kernel_rfl) (by refine ⟨by go_grown, ?_, ?_, ?_, ?_, ?_, ?_⟩ <;> simp [go_sem, *]) ?_ ?_
          · simp only [setAll, putS, List.zipIdx_cons, List.zipIdx_nil, List.foldl_cons, List.foldl_nil, Nat.reduceAdd, List.setIfInBounds_toArray, List.set_cons_zero, List.set_cons_succ]
            refine ⟨fun u w0 c0 hc0 hW hd K hK => ?_, ?_⟩
            · obtain ⟨hB, hc0, hc1, hc2, hc3, hc4, hc5⟩ := hW
              refine if_yes rfl ?_
              go_simp
              refine ka (hK (.bool false) w0 ⟨hB, hc0, hc1, hc2, hc3, hc4, hc5⟩ (fun _ _ h => h) rfl) ?_
              simp [updU, *]
            refine ⟨fun u w0 c0 hc0 hW hd K hK => ?_, ?_⟩
            · obtain ⟨hB, hc0, hc1, hc2, hc3, hc4, hc5⟩ := hW
              refine if_yes rfl ?_
              go_simp
              refine ka (hK (.bool false) w0 ⟨hB, hc0, hc1, hc2, hc3, hc4, hc5⟩ (fun _ _ h => h) rfl) ?_
              simp [updU, *]
            refine ⟨fun u w0 c0 hc0 hW hd K hK => ?_, ?_⟩
            · obtain ⟨hB, hc0, hc1, hc2, hc3, hc4, hc5⟩ := hW
              have e0 : u 0 = .bool false := hd 0 (of_decide_eq_true (by kernel_rfl))
              have e1 : u 1 = .bool false := hd 1 (of_decide_eq_true (by kernel_rfl))
              refine if_yes rfl ?_
              go_simp
              refine ka (hK (.bool true) w0 ⟨hB, hc0, hc1, hc2, hc3, hc4, hc5⟩ (fun _ _ h => h) rfl) ?_
              simp [updU, *]
            refine ⟨fun u w0 c0 hc0 hW hd K hK => ?_, ?_⟩
            · obtain ⟨hB, hc0, hc1, hc2, hc3, hc4, hc5⟩ := hW
              have e2 : u 2 = .bool true := hd 2 (of_decide_eq_true (by kernel_rfl))
              refine if_yes rfl ?_
              go_simp
              refine ka (hK (.bool true) w0 ⟨hB, hc0, hc1, hc2, hc3, hc4, hc5⟩ (fun _ _ h => h) rfl) ?_
              simp [updU, *]
            refine ⟨fun u w0 c0 hc0 hW hd K hK => ?_, ?_⟩
            · obtain ⟨hB, hc0, hc1, hc2, hc3, hc4, hc5⟩ := hW
              have e3 : u 3 = .bool true := hd 3 (of_decide_eq_true (by kernel_rfl))
              refine if_yes (by rw [wanted_of (j := 3) (s := 79) (want := true) (b := true) rfl rfl (by first | exact congrArg some e3 | simp [e3])]; rfl) ?_
              go_simp
              refine ka (hK (.agg #[.slice A2 Rs.length c2, .int .i64 Re]) w0 ⟨hB, hc0, hc1, hc2, hc3, hc4, hc5⟩ (fun _ _ h => h) rfl) ?_
              simp [updU, *]
            refine ⟨fun u w0 c0 hc0 hW hd K hK => ?_, ?_⟩
            · obtain ⟨hB, hc0, hc1, hc2, hc3, hc4, hc5⟩ := hW
              have e3 : u 3 = .bool true := hd 3 (of_decide_eq_true (by kernel_rfl))
              refine if_yes (by rw [wanted_of (j := 3) (s := 79) (want := true) (b := true) rfl rfl (by first | exact congrArg some e3 | simp [e3])]; rfl) ?_
              go_simp
              refine ka (hK (.agg #[.slice A4 Rs.length c4, .int .i64 Re]) w0 ⟨hB, hc0, hc1, hc2, hc3, hc4, hc5⟩ (fun _ _ h => h) rfl) ?_
              simp [updU, *]
            refine ⟨fun u w0 c0 hc0 hW hd K hK => ?_, ?_⟩
            · obtain ⟨hB, hc0, hc1, hc2, hc3, hc4, hc5⟩ := hW
              have e3 : u 3 = .bool true := hd 3 (of_decide_eq_true (by kernel_rfl))
              have e4 : u 4 = .agg #[.slice A2 Rs.length c2, .int .i64 Re] := hd 4 (of_decide_eq_true (by kernel_rfl))
              have e5 : u 5 = .agg #[.slice A4 Rs.length c4, .int .i64 Re] := hd 5 (of_decide_eq_true (by kernel_rfl))
              refine if_yes (by rw [wanted_of (j := 3) (s := 79) (want := true) (b := true) rfl rfl (by first | exact congrArg some e3 | simp [e3])]; rfl) ?_
              go_simp
              (go_at_call 22; refine (wgPolicy_c A2 A4 c2 c4 Rs Re _ (R24.out.upB hB hB.size) (R4.out.upB hB hB.size) (by omega)).mono ?_; rintro e w5 ⟨rfl, b5⟩; (refine ka (hK (.bool true) w5 ⟨below_via hB b5, cell_up hc0 b5, cell_up hc1 b5, cell_up hc2 b5, cell_up hc3 b5, cell_up hc4 b5, cell_up hc5 b5⟩ (fun _ _ h => h) rfl) ?_); (simp [updU, *]))
            refine ⟨fun u w0 c0 hc0 hW hd K hK => ?_, ?_⟩
            · obtain ⟨hB, hc0, hc1, hc2, hc3, hc4, hc5⟩ := hW
              have e3 : u 3 = .bool true := hd 3 (of_decide_eq_true (by kernel_rfl))
              have e6 : u 6 = .bool true := hd 6 (of_decide_eq_true (by kernel_rfl))
              refine if_yes rfl ?_
              go_simp
              refine ka (hK (.bool true) w0 ⟨hB, hc0, hc1, hc2, hc3, hc4, hc5⟩ (fun _ _ h => h) rfl) ?_
              simp [updU, *]
            refine ⟨fun u w0 c0 hc0 hW hd K hK => ?_, ?_⟩
            · obtain ⟨hB, hc0, hc1, hc2, hc3, hc4, hc5⟩ := hW
              have e6 : u 6 = .bool true := hd 6 (of_decide_eq_true (by kernel_rfl))
              have e7 : u 7 = .bool true := hd 7 (of_decide_eq_true (by kernel_rfl))
              refine if_yes rfl ?_
              go_simp
              refine ka (hK (.bool true) w0 ⟨hB, hc0, hc1, hc2, hc3, hc4, hc5⟩ (fun _ _ h => h) rfl) ?_
              simp [updU, *]
            refine ⟨fun u w0 c0 hc0 hW hd K hK => ?_, ?_⟩
            · obtain ⟨hB, hc0, hc1, hc2, hc3, hc4, hc5⟩ := hW
              have e8 : u 8 = .bool true := hd 8 (of_decide_eq_true (by kernel_rfl))
              refine if_yes (by rw [wanted_of (j := 8) (s := 84) (want := true) (b := true) rfl rfl (by first | exact congrArg some e8 | simp [e8])]; rfl) ?_
              go_simp
              refine ka (hK (.agg #[.slice PA rs.length pc, .int .i64 pe]) w0 ⟨hB, hc0, hc1, hc2, hc3, hc4, hc5⟩ (fun _ _ h => h) rfl) ?_
              simp [updU, *]
            refine ⟨fun u w0 c0 hc0 hW hd K hK => ?_, ?_⟩
            · obtain ⟨hB, hc0, hc1, hc2, hc3, hc4, hc5⟩ := hW
              have e8 : u 8 = .bool true := hd 8 (of_decide_eq_true (by kernel_rfl))
              have e9 : u 9 = .agg #[.slice PA rs.length pc, .int .i64 pe] := hd 9 (of_decide_eq_true (by kernel_rfl))
              refine if_yes (by rw [wanted_of (j := 8) (s := 84) (want := true) (b := true) rfl rfl (by first | exact congrArg some e8 | simp [e8])]; rfl) ?_
              go_simp
              (go_at_call 17; refine (HKI.out _ _ _ (RP4.out.upB hB hB.size) (HP4.out.upB hB hB.size)).mono ?_; rintro e w5 ⟨rfl, b5⟩; (refine ka (hK (.bool pok) w5 ⟨below_via hB b5, cell_up hc0 b5, cell_up hc1 b5, cell_up hc2 b5, cell_up hc3 b5, cell_up hc4 b5, cell_up hc5 b5⟩ (fun _ _ h => h) rfl) ?_); (simp [updU, *]))
            refine ⟨fun u w0 c0 hc0 hW hd K hK => ?_, ?_⟩
            · obtain ⟨hB, hc0, hc1, hc2, hc3, hc4, hc5⟩ := hW
              have e8 : u 8 = .bool true := hd 8 (of_decide_eq_true (by kernel_rfl))
              refine if_yes (by rw [wanted_of (j := 8) (s := 84) (want := true) (b := true) rfl rfl (by first | exact congrArg some e8 | simp [e8])]; rfl) ?_
              go_simp
              refine ka (hK (.agg #[.slice PA rs.length pc, .int .i64 pe]) w0 ⟨hB, hc0, hc1, hc2, hc3, hc4, hc5⟩ (fun _ _ h => h) rfl) ?_
              simp [updU, *]
            refine ⟨fun u w0 c0 hc0 hW hd K hK => ?_, ?_⟩
            · obtain ⟨hB, hc0, hc1, hc2, hc3, hc4, hc5⟩ := hW
              have e8 : u 8 = .bool true := hd 8 (of_decide_eq_true (by kernel_rfl))
              have e10 : u 10 = .bool pok := hd 10 (of_decide_eq_true (by kernel_rfl))
              have e11 : u 11 = .agg #[.slice PA rs.length pc, .int .i64 pe] := hd 11 (of_decide_eq_true (by kernel_rfl))
              refine if_yes (by rw [wanted_of (j := 8) (s := 84) (want := true) (b := true) rfl rfl (by first | exact congrArg some e8 | simp [e8])]; rfl) ?_
              go_simp
              (go_at_call 18; refine (HKS.out _ _ _ (RP4.out.upB hB hB.size)).mono ?_; rintro e w5 ⟨rfl, b5⟩; (refine ka (hK (.bool pok) w5 ⟨below_via hB b5, cell_up hc0 b5, cell_up hc1 b5, cell_up hc2 b5, cell_up hc3 b5, cell_up hc4 b5, cell_up hc5 b5⟩ (fun _ _ h => h) rfl) ?_); (simp [updU, *]))
            refine ⟨fun u w0 c0 hc0 hW hd K hK => ?_, ?_⟩
            · obtain ⟨hB, hc0, hc1, hc2, hc3, hc4, hc5⟩ := hW
              have e8 : u 8 = .bool true := hd 8 (of_decide_eq_true (by kernel_rfl))
              have e10 : u 10 = .bool pok := hd 10 (of_decide_eq_true (by kernel_rfl))
              have e12 : u 12 = .bool pok := hd 12 (of_decide_eq_true (by kernel_rfl))
              refine if_yes (by rw [wanted_of (j := 8) (s := 84) (want := true) (b := true) rfl rfl (by first | exact congrArg some e8 | simp [e8])]; rfl) ?_
              go_simp
              refine ka (hK (.bool true) w0 ⟨hB, hc0, hc1, hc2, hc3, hc4, hc5⟩ (fun _ _ h => h) rfl) ?_
              simp [updU, *]
            refine ⟨fun u w0 c0 hc0 hW hd K hK => ?_, ?_⟩
            · obtain ⟨hB, hc0, hc1, hc2, hc3, hc4, hc5⟩ := hW
              have e8 : u 8 = .bool true := hd 8 (of_decide_eq_true (by kernel_rfl))
              have e13 : u 13 = .bool true := hd 13 (of_decide_eq_true (by kernel_rfl))
              refine if_yes rfl ?_
              go_simp
              refine ka (hK (.bool true) w0 ⟨hB, hc0, hc1, hc2, hc3, hc4, hc5⟩ (fun _ _ h => h) rfl) ?_
              simp [updU, *]
            refine ⟨fun u w0 c0 hc0 hW hd K hK => ?_, ?_⟩
            · obtain ⟨hB, hc0, hc1, hc2, hc3, hc4, hc5⟩ := hW
              have e0 : u 0 = .bool false := hd 0 (of_decide_eq_true (by kernel_rfl))
              have e1 : u 1 = .bool false := hd 1 (of_decide_eq_true (by kernel_rfl))
              have e2 : u 2 = .bool true := hd 2 (of_decide_eq_true (by kernel_rfl))
              have e3 : u 3 = .bool true := hd 3 (of_decide_eq_true (by kernel_rfl))
              have e4 : u 4 = .agg #[.slice A2 Rs.length c2, .int .i64 Re] := hd 4 (of_decide_eq_true (by kernel_rfl))
              have e5 : u 5 = .agg #[.slice A4 Rs.length c4, .int .i64 Re] := hd 5 (of_decide_eq_true (by kernel_rfl))
              have e6 : u 6 = .bool true := hd 6 (of_decide_eq_true (by kernel_rfl))
              have e7 : u 7 = .bool true := hd 7 (of_decide_eq_true (by kernel_rfl))
              have e8 : u 8 = .bool true := hd 8 (of_decide_eq_true (by kernel_rfl))
              have e9 : u 9 = .agg #[.slice PA rs.length pc, .int .i64 pe] := hd 9 (of_decide_eq_true (by kernel_rfl))
              have e10 : u 10 = .bool pok := hd 10 (of_decide_eq_true (by kernel_rfl))
              have e11 : u 11 = .agg #[.slice PA rs.length pc, .int .i64 pe] := hd 11 (of_decide_eq_true (by kernel_rfl))
              have e12 : u 12 = .bool pok := hd 12 (of_decide_eq_true (by kernel_rfl))
              have e13 : u 13 = .bool true := hd 13 (of_decide_eq_true (by kernel_rfl))
              have e14 : u 14 = .bool true := hd 14 (of_decide_eq_true (by kernel_rfl))
              refine if_yes rfl ?_
              go_simp
              refine ka (hK (.bool true) w0 ⟨hB, hc0, hc1, hc2, hc3, hc4, hc5⟩ (fun _ _ h => h) rfl) ?_
              simp [updU, *]
            exact trivial
          · intro u w8 hW hV
            obtain ⟨hB, hc0, hc1, hc2, hc3, hc4, hc5⟩ := hW
            have e0 : u 0 = .bool false := hV 0 (by decide)
            have e1 : u 1 = .bool false := hV 1 (by decide)
            have e2 : u 2 = .bool true := hV 2 (by decide)
            have e3 : u 3 = .bool true := hV 3 (by decide)
            have e4 : u 4 = .agg #[.slice A2 Rs.length c2, .int .i64 Re] := hV 4 (by decide)
            have e5 : u 5 = .agg #[.slice A4 Rs.length c4, .int .i64 Re] := hV 5 (by decide)
            have e6 : u 6 = .bool true := hV 6 (by decide)
            have e7 : u 7 = .bool true := hV 7 (by decide)
            have e8 : u 8 = .bool true := hV 8 (by decide)
            have e9 : u 9 = .agg #[.slice PA rs.length pc, .int .i64 pe] := hV 9 (by decide)
            have e10 : u 10 = .bool pok := hV 10 (by decide)
            have e11 : u 11 = .agg #[.slice PA rs.length pc, .int .i64 pe] := hV 11 (by decide)
            have e12 : u 12 = .bool pok := hV 12 (by decide)
            have e13 : u 13 = .bool true := hV 13 (by decide)
            have e14 : u 14 = .bool true := hV 14 (by decide)
            have e15 : u 15 = .bool true := hV 15 (by decide)
            simp only [setAll, putS, List.zipIdx_cons, List.zipIdx_nil, List.foldl_cons, List.foldl_nil, Nat.reduceAdd, List.setIfInBounds_toArray, List.set_cons_zero, List.set_cons_succ]
            simp only [e0, e1, e2, e3, e4, e5, e6, e7, e8, e9, e10, e11, e12, e13, e14, e15]
            clear hV e0 e1 e2 e3 e4 e5 e6 e7 e8 e9 e10 e11 e12 e13 e14 e15 
            go_wp2
            go_returns
            exact ⟨rfl, below_via H4 hB⟩
      | true =>
        cases fine with
        | false =>
          have hpk : pok = true := EPK.out.trans (HOK.out rfl).2.2.2.1
          subst hpk
          clear HOK HOK2 EPK
          go_wp2_with fail
          go_region_held3 (fun w' => w'.cell? ⟨w1.heap.size, 0, none⟩ = some (.slice PA rs.length pc) ∧ w'.cell? ⟨w1.heap.size, 1, none⟩ = some (.int .i64 pe) ∧ w'.cell? ⟨w2.heap.size, 0, none⟩ = some (.slice A2 Rs.length c2) ∧ w'.cell? ⟨w2.heap.size, 1, none⟩ = some (.int .i64 Re) ∧ w'.cell? ⟨w4.heap.size, 0, none⟩ = some (.slice A4 Rs.length c4) ∧ w'.cell? ⟨w4.heap.size, 1, none⟩ = some (.int .i64 Re)) (simp [go_sem, *])
            (first
             | (go_at_call 22; refine (wgPolicy_c A2 A4 c2 c4 Rs Re _ (((R2.out.up s3).up s4).upB (by go_grown) (by go_size)) (R4.out.upB (by go_grown) (by go_size)) (by omega)).mono ?_; rintro e w5 ⟨rfl, b5⟩; obtain ⟨gc5, gf5⟩ := below_get b5; (try simp only [heap_drew, World.size_alloc, World.size_setCell] at gc5 gf5); have s5 := below_via (w := w4) (by go_grown) b5; have H5 := below_via H4 s5; have hs5 := b5.size; (try simp at hs5); have z5_0 : w1.heap.size < w5.heap.size := (by omega); have z5_1 : w1.heap.size + 1 < w5.heap.size := (by omega); have z5_2 : w2.heap.size < w5.heap.size := (by omega); have z5_3 : w3.heap.size < w5.heap.size := (by omega); have z5_4 : w4.heap.size < w5.heap.size := (by omega); clear b5)
             | (go_at_call 17; refine (HKI.out _ _ _ (((((RP.out.up s2).up s3).up s4).up s5).upB (by go_grown) (by go_size)) ((HP.out.below (show Below w.heap.size w _ from below_via H5 (by go_grown))).more (by (try simp); omega))).mono ?_; rintro e w6 ⟨rfl, b6⟩; obtain ⟨gc6, gf6⟩ := below_get b6; (try simp only [heap_drew, World.size_alloc, World.size_setCell] at gc6 gf6); have s6 := below_via (w := w5) (by go_grown) b6; have H6 := below_via H5 s6; have hs6 := b6.size; (try simp at hs6); have z6_0 : w1.heap.size < w6.heap.size := (by omega); have z6_1 : w1.heap.size + 1 < w6.heap.size := (by omega); have z6_2 : w2.heap.size < w6.heap.size := (by omega); have z6_3 : w3.heap.size < w6.heap.size := (by omega); have z6_4 : w4.heap.size < w6.heap.size := (by omega); clear b6)
             | (go_at_call 18; refine (HKS.out _ _ _ ((((((RP.out.up s2).up s3).up s4).up s5).up s6).upB (by go_grown) (by go_size))).mono ?_; rintro e w7 ⟨rfl, b7⟩; obtain ⟨gc7, gf7⟩ := below_get b7; (try simp only [heap_drew, World.size_alloc, World.size_setCell] at gc7 gf7); have s7 := below_via (w := w6) (by go_grown) b7; have H7 := below_via H6 s7; have hs7 := b7.size; (try simp at hs7); have z7_0 : w1.heap.size < w7.heap.size := (by omega); have z7_1 : w1.heap.size + 1 < w7.heap.size := (by omega); have z7_2 : w2.heap.size < w7.heap.size := (by omega); have z7_3 : w3.heap.size < w7.heap.size := (by omega); have z7_4 : w4.heap.size < w7.heap.size := (by omega); clear b7))
          go_wp2_with fail
          go_region_held3 (fun w' => w'.cell? ⟨w1.heap.size, 0, none⟩ = some (.slice PA rs.length pc) ∧ w'.cell? ⟨w1.heap.size, 1, none⟩ = some (.int .i64 pe) ∧ w'.cell? ⟨w2.heap.size, 0, none⟩ = some (.slice A2 Rs.length c2) ∧ w'.cell? ⟨w2.heap.size, 1, none⟩ = some (.int .i64 Re) ∧ w'.cell? ⟨w4.heap.size, 0, none⟩ = some (.slice A4 Rs.length c4) ∧ w'.cell? ⟨w4.heap.size, 1, none⟩ = some (.int .i64 Re)) (simp [go_sem, *])
            (first
             | (go_at_call 22; refine (wgPolicy_c A2 A4 c2 c4 Rs Re _ ((((((R2.out.up s3).up s4).up s5).up s6).up s7).upB (by go_grown) (by go_size)) ((((R4.out.up s5).up s6).up s7).upB (by go_grown) (by go_size)) (by omega)).mono ?_; rintro e w8 ⟨rfl, b8⟩; obtain ⟨gc8, gf8⟩ := below_get b8; (try simp only [heap_drew, World.size_alloc, World.size_setCell] at gc8 gf8); have s8 := below_via (w := w7) (by go_grown) b8; have H8 := below_via H7 s8; have hs8 := b8.size; (try simp at hs8); have z8_0 : w1.heap.size < w8.heap.size := (by omega); have z8_1 : w1.heap.size + 1 < w8.heap.size := (by omega); have z8_2 : w2.heap.size < w8.heap.size := (by omega); have z8_3 : w3.heap.size < w8.heap.size := (by omega); have z8_4 : w4.heap.size < w8.heap.size := (by omega); clear b8)
             | (go_at_call 17; refine (HKI.out _ _ _ ((((((((RP.out.up s2).up s3).up s4).up s5).up s6).up s7).up s8).upB (by go_grown) (by go_size)) ((HP.out.below (show Below w.heap.size w _ from below_via H8 (by go_grown))).more (by (try simp); omega))).mono ?_; rintro e w9 ⟨rfl, b9⟩; obtain ⟨gc9, gf9⟩ := below_get b9; (try simp only [heap_drew, World.size_alloc, World.size_setCell] at gc9 gf9); have s9 := below_via (w := w8) (by go_grown) b9; have H9 := below_via H8 s9; have hs9 := b9.size; (try simp at hs9); have z9_0 : w1.heap.size < w9.heap.size := (by omega); have z9_1 : w1.heap.size + 1 < w9.heap.size := (by omega); have z9_2 : w2.heap.size < w9.heap.size := (by omega); have z9_3 : w3.heap.size < w9.heap.size := (by omega); have z9_4 : w4.heap.size < w9.heap.size := (by omega); clear b9)
             | (go_at_call 18; refine (HKS.out _ _ _ (((((((((RP.out.up s2).up s3).up s4).up s5).up s6).up s7).up s8).up s9).upB (by go_grown) (by go_size))).mono ?_; rintro e w10 ⟨rfl, b10⟩; obtain ⟨gc10, gf10⟩ := below_get b10; (try simp only [heap_drew, World.size_alloc, World.size_setCell] at gc10 gf10); have s10 := below_via (w := w9) (by go_grown) b10; have H10 := below_via H9 s10; have hs10 := b10.size; (try simp at hs10); have z10_0 : w1.heap.size < w10.heap.size := (by omega); have z10_1 : w1.heap.size + 1 < w10.heap.size := (by omega); have z10_2 : w2.heap.size < w10.heap.size := (by omega); have z10_3 : w3.heap.size < w10.heap.size := (by omega); have z10_4 : w4.heap.size < w10.heap.size := (by omega); clear b10))
          go_wp2
          go_returns
          exact ⟨rfl, by go_grown⟩
        | true =>
          obtain ⟨hRs, hRe, _, hk2, _⟩ := HOK.out rfl
          obtain ⟨hSs, hSe, _, _, hk5⟩ := HOK2.out rfl
          rw [List.nil_append] at hRs
          rw [List.append_nil] at hSs hk5
          have hRs := hRs.symm
          have hRe := hRe.symm
          have hSs := hSs.symm
          have hSe := hSe.symm
          subst hRs hRe hSs hSe
          have hpk : pok = true := EPK.out.trans hk2
          subst hpk
          have HK2 := Lib.hid hk2
          have HK5 := Lib.hid hk5
          have h8 := (polOk_all hk2).1
          have HTS : Hid (∀ r ∈ rs, r.ts.length ≤ 10) := Lib.hid (fun r h => by have := polOk_ts HK2.out r h; omega)
          clear HOK HOK2 EPK hk2 hk5
          go_wp2_with fail
          go_region_held3 (fun w' => w'.cell? ⟨w1.heap.size, 0, none⟩ = some (.slice PA rs.length pc) ∧ w'.cell? ⟨w1.heap.size, 1, none⟩ = some (.int .i64 pe) ∧ w'.cell? ⟨w2.heap.size, 0, none⟩ = some (.slice A2 rs.length c2) ∧ w'.cell? ⟨w2.heap.size, 1, none⟩ = some (.int .i64 pe) ∧ w'.cell? ⟨w4.heap.size, 0, none⟩ = some (.slice A4 rs.length c4) ∧ w'.cell? ⟨w4.heap.size, 1, none⟩ = some (.int .i64 pe)) (simp [go_sem, *])
            (first
             | (go_at_call 22; refine (wgPolicy_c A2 A4 c2 c4 rs pe _ (((R2.out.up s3).up s4).upB (by go_grown) (by go_size)) (R4.out.upB (by go_grown) (by go_size)) (by omega)).mono ?_; rintro e w5 ⟨rfl, b5⟩; obtain ⟨gc5, gf5⟩ := below_get b5; (try simp only [heap_drew, World.size_alloc, World.size_setCell] at gc5 gf5); have s5 := below_via (w := w4) (by go_grown) b5; have H5 := below_via H4 s5; have hs5 := b5.size; (try simp at hs5); have z5_0 : w1.heap.size < w5.heap.size := (by omega); have z5_1 : w1.heap.size + 1 < w5.heap.size := (by omega); have z5_2 : w2.heap.size < w5.heap.size := (by omega); have z5_3 : w3.heap.size < w5.heap.size := (by omega); have z5_4 : w4.heap.size < w5.heap.size := (by omega); clear b5)
             | (go_at_call 17; refine (HKI.out _ _ _ (((((RP.out.up s2).up s3).up s4).up s5).upB (by go_grown) (by go_size)) ((HP.out.below (show Below w.heap.size w _ from below_via H5 (by go_grown))).more (by (try simp); omega))).mono ?_; rintro e w6 ⟨rfl, b6⟩; obtain ⟨gc6, gf6⟩ := below_get b6; (try simp only [heap_drew, World.size_alloc, World.size_setCell] at gc6 gf6); have s6 := below_via (w := w5) (by go_grown) b6; have H6 := below_via H5 s6; have hs6 := b6.size; (try simp at hs6); have z6_0 : w1.heap.size < w6.heap.size := (by omega); have z6_1 : w1.heap.size + 1 < w6.heap.size := (by omega); have z6_2 : w2.heap.size < w6.heap.size := (by omega); have z6_3 : w3.heap.size < w6.heap.size := (by omega); have z6_4 : w4.heap.size < w6.heap.size := (by omega); clear b6)
             | (go_at_call 18; refine (HKS.out _ _ _ ((((((RP.out.up s2).up s3).up s4).up s5).up s6).upB (by go_grown) (by go_size))).mono ?_; rintro e w7 ⟨rfl, b7⟩; obtain ⟨gc7, gf7⟩ := below_get b7; (try simp only [heap_drew, World.size_alloc, World.size_setCell] at gc7 gf7); have s7 := below_via (w := w6) (by go_grown) b7; have H7 := below_via H6 s7; have hs7 := b7.size; (try simp at hs7); have z7_0 : w1.heap.size < w7.heap.size := (by omega); have z7_1 : w1.heap.size + 1 < w7.heap.size := (by omega); have z7_2 : w2.heap.size < w7.heap.size := (by omega); have z7_3 : w3.heap.size < w7.heap.size := (by omega); have z7_4 : w4.heap.size < w7.heap.size := (by omega); clear b7))
          (go_wp2_with fail); (go_at_call 23; refine (drawnNear_c B m d ys PA rs.length pc rs pe _ ((HQ.out.below (show Below w.heap.size w _ from below_via H7 (by go_grown))).more (by (try simp); omega)) HY.out hd hd2 (((((((RP.out.up s2).up s3).up s4).up s5).up s6).up s7).upB (by go_grown) (by go_size)) (by omega) HTS.out).mono ?_; rintro e w8 ⟨num, CA, cc, zs, rfl, rc, hcb, b8⟩; have RC := Lib.hid rc; have HCB := Lib.hid hcb; clear rc hcb; obtain ⟨gc8, gf8⟩ := below_get b8; (try simp only [heap_drew, World.size_alloc, World.size_setCell] at gc8 gf8); have s8 := below_via (w := w7) (by go_grown) b8; have H8 := below_via H7 s8; have hs8 := b8.size; (try simp at hs8); have z8_0 : w1.heap.size < w8.heap.size := (by omega); have z8_1 : w1.heap.size + 1 < w8.heap.size := (by omega); have z8_2 : w2.heap.size < w8.heap.size := (by omega); have z8_3 : w3.heap.size < w8.heap.size := (by omega); have z8_4 : w4.heap.size < w8.heap.size := (by omega); clear b8)
          have hz4 : zs.length = 4 := by have := RC.out.len1; rw [ints_len] at this; exact this
          obtain ⟨ok1, cb1, O1, eok1, _, eO1, hI1, _, _, _, _⟩ := of_x rs pe num zs (by omega) (by omega)
          obtain ⟨ok3, cb3, O3, eok3, _, eO3, hI3, _, _, _, _⟩ := of_x rs qe num zs (by omega) (by omega)
          obtain ⟨F, eF, hFI⟩ := fit_i rs pe num zs (by omega) (by omega)
          have hlaw : O3 = if F = 0 then qe else O1 := by
            rw [eO3, eF, eO1]
            exact behind_law (p := ⟨rs, pe⟩) (e := qe) (num := num) (xs := zs) HK2.out HK5.out
          have HI1 := Lib.hid hI1
          have HI3 := Lib.hid hI3
          have HF := Lib.hid hFI
          rw [hz4] at HI1 HI3 HF
          clear hI1 hI3 hFI eok1 eO1 eok3 eO3 eF HK2 HK5 hz4 HCB HTS
          by_cases hF : F = 0
          · rw [if_pos hF] at hlaw
            subst hlaw hF
            (go_wp2_with fail); (go_at_call 15; refine (HI1.out _ _ _ _ _ ((((((((RP.out.up s2).up s3).up s4).up s5).up s6).up s7).up s8).upB (by go_grown) (by go_size)) (RC.out.upB (by go_grown) (by go_size)) ((HP.out.below (show Below w.heap.size w _ from below_via H8 (by go_grown))).more (by (try simp); omega))).mono ?_; rintro e w9 ⟨rfl, b9⟩; obtain ⟨gc9, gf9⟩ := below_get b9; (try simp only [heap_drew, World.size_alloc, World.size_setCell] at gc9 gf9); have s9 := below_via (w := w8) (by go_grown) b9; have H9 := below_via H8 s9; have hs9 := b9.size; (try simp at hs9); have z9_0 : w1.heap.size < w9.heap.size := (by omega); have z9_1 : w1.heap.size + 1 < w9.heap.size := (by omega); have z9_2 : w2.heap.size < w9.heap.size := (by omega); have z9_3 : w3.heap.size < w9.heap.size := (by omega); have z9_4 : w4.heap.size < w9.heap.size := (by omega); have z9_5 : w8.heap.size < w9.heap.size := (by omega); clear b9)
            (go_wp2_with fail); (go_at_call 28; refine (HF.out _ _ _ _ _ (((((((((RP.out.up s2).up s3).up s4).up s5).up s6).up s7).up s8).up s9).upB (by go_grown) (by go_size)) ((RC.out.up s9).upB (by go_grown) (by go_size)) ((HP.out.below (show Below w.heap.size w _ from below_via H9 (by go_grown))).more (by (try simp); omega))).mono ?_; rintro e w10 ⟨rfl, b10⟩; obtain ⟨gc10, gf10⟩ := below_get b10; (try simp only [heap_drew, World.size_alloc, World.size_setCell] at gc10 gf10); have s10 := below_via (w := w9) (by go_grown) b10; have H10 := below_via H9 s10; have hs10 := b10.size; (try simp at hs10); have z10_0 : w1.heap.size < w10.heap.size := (by omega); have z10_1 : w1.heap.size + 1 < w10.heap.size := (by omega); have z10_2 : w2.heap.size < w10.heap.size := (by omega); have z10_3 : w3.heap.size < w10.heap.size := (by omega); have z10_4 : w4.heap.size < w10.heap.size := (by omega); have z10_5 : w8.heap.size < w10.heap.size := (by omega); clear b10)
            go_wp2_with (first
              | (go_at_call 22; refine (wgPolicy_c A2 PA c2 pc rs pe _ (((((((((R2.out.up s3).up s4).up s5).up s6).up s7).up s8).up s9).up s10).upB (by go_grown) (by go_size)) ((((((((((RP.out.up s2).up s3).up s4).up s5).up s6).up s7).up s8).up s9).up s10).upB (by go_grown) (by go_size)) (by omega)).mono ?_; rintro e w11 ⟨rfl, b11⟩; obtain ⟨gc11, gf11⟩ := below_get b11; (try simp only [heap_drew, World.size_alloc, World.size_setCell] at gc11 gf11); have s11 := below_via (w := w10) (by go_grown) b11; have H11 := below_via H10 s11; have hs11 := b11.size; (try simp at hs11); have z11_0 : w1.heap.size < w11.heap.size := (by omega); have z11_1 : w1.heap.size + 1 < w11.heap.size := (by omega); have z11_2 : w2.heap.size < w11.heap.size := (by omega); have z11_3 : w3.heap.size < w11.heap.size := (by omega); have z11_4 : w4.heap.size < w11.heap.size := (by omega); have z11_5 : w8.heap.size < w11.heap.size := (by omega); clear b11)
              | (go_at_call 15; refine (HI3.out _ _ _ _ _ (((((((((R3.out.up s4).up s5).up s6).up s7).up s8).up s9).up s10).up s11).upB (by go_grown) (by go_size)) ((((RC.out.up s9).up s10).up s11).upB (by go_grown) (by go_size)) ((HP.out.below (show Below w.heap.size w _ from below_via H11 (by go_grown))).more (by (try simp); omega))).mono ?_; rintro e w12 ⟨rfl, b12⟩; obtain ⟨gc12, gf12⟩ := below_get b12; (try simp only [heap_drew, World.size_alloc, World.size_setCell] at gc12 gf12); have s12 := below_via (w := w11) (by go_grown) b12; have H12 := below_via H11 s12; have hs12 := b12.size; (try simp at hs12); have z12_0 : w1.heap.size < w12.heap.size := (by omega); have z12_1 : w1.heap.size + 1 < w12.heap.size := (by omega); have z12_2 : w2.heap.size < w12.heap.size := (by omega); have z12_3 : w3.heap.size < w12.heap.size := (by omega); have z12_4 : w4.heap.size < w12.heap.size := (by omega); have z12_5 : w8.heap.size < w12.heap.size := (by omega); clear b12))
            go_wp2
            go_returns
            exact ⟨rfl, by go_grown⟩
          · rw [if_neg hF] at hlaw
            subst hlaw
            have hF' : ((F : Int) == 0) = false := by simpa using hF
            (go_wp2_with fail); (go_at_call 15; refine (HI1.out _ _ _ _ _ ((((((((RP.out.up s2).up s3).up s4).up s5).up s6).up s7).up s8).upB (by go_grown) (by go_size)) (RC.out.upB (by go_grown) (by go_size)) ((HP.out.below (show Below w.heap.size w _ from below_via H8 (by go_grown))).more (by (try simp); omega))).mono ?_; rintro e w9 ⟨rfl, b9⟩; obtain ⟨gc9, gf9⟩ := below_get b9; (try simp only [heap_drew, World.size_alloc, World.size_setCell] at gc9 gf9); have s9 := below_via (w := w8) (by go_grown) b9; have H9 := below_via H8 s9; have hs9 := b9.size; (try simp at hs9); have z9_0 : w1.heap.size < w9.heap.size := (by omega); have z9_1 : w1.heap.size + 1 < w9.heap.size := (by omega); have z9_2 : w2.heap.size < w9.heap.size := (by omega); have z9_3 : w3.heap.size < w9.heap.size := (by omega); have z9_4 : w4.heap.size < w9.heap.size := (by omega); have z9_5 : w8.heap.size < w9.heap.size := (by omega); clear b9)
            (go_wp2_with fail); (go_at_call 28; refine (HF.out _ _ _ _ _ (((((((((RP.out.up s2).up s3).up s4).up s5).up s6).up s7).up s8).up s9).upB (by go_grown) (by go_size)) ((RC.out.up s9).upB (by go_grown) (by go_size)) ((HP.out.below (show Below w.heap.size w _ from below_via H9 (by go_grown))).more (by (try simp); omega))).mono ?_; rintro e w10 ⟨rfl, b10⟩; obtain ⟨gc10, gf10⟩ := below_get b10; (try simp only [heap_drew, World.size_alloc, World.size_setCell] at gc10 gf10); have s10 := below_via (w := w9) (by go_grown) b10; have H10 := below_via H9 s10; have hs10 := b10.size; (try simp at hs10); have z10_0 : w1.heap.size < w10.heap.size := (by omega); have z10_1 : w1.heap.size + 1 < w10.heap.size := (by omega); have z10_2 : w2.heap.size < w10.heap.size := (by omega); have z10_3 : w3.heap.size < w10.heap.size := (by omega); have z10_4 : w4.heap.size < w10.heap.size := (by omega); have z10_5 : w8.heap.size < w10.heap.size := (by omega); clear b10)
            go_wp2_with (first
              | (go_at_call 22; refine (wgPolicy_c A2 PA c2 pc rs pe _ (((((((((R2.out.up s3).up s4).up s5).up s6).up s7).up s8).up s9).up s10).upB (by go_grown) (by go_size)) ((((((((((RP.out.up s2).up s3).up s4).up s5).up s6).up s7).up s8).up s9).up s10).upB (by go_grown) (by go_size)) (by omega)).mono ?_; rintro e w11 ⟨rfl, b11⟩; obtain ⟨gc11, gf11⟩ := below_get b11; (try simp only [heap_drew, World.size_alloc, World.size_setCell] at gc11 gf11); have s11 := below_via (w := w10) (by go_grown) b11; have H11 := below_via H10 s11; have hs11 := b11.size; (try simp at hs11); have z11_0 : w1.heap.size < w11.heap.size := (by omega); have z11_1 : w1.heap.size + 1 < w11.heap.size := (by omega); have z11_2 : w2.heap.size < w11.heap.size := (by omega); have z11_3 : w3.heap.size < w11.heap.size := (by omega); have z11_4 : w4.heap.size < w11.heap.size := (by omega); have z11_5 : w8.heap.size < w11.heap.size := (by omega); clear b11)
              | (go_at_call 15; refine (HI3.out _ _ _ _ _ (((((((((R3.out.up s4).up s5).up s6).up s7).up s8).up s9).up s10).up s11).upB (by go_grown) (by go_size)) ((((RC.out.up s9).up s10).up s11).upB (by go_grown) (by go_size)) ((HP.out.below (show Below w.heap.size w _ from below_via H11 (by go_grown))).more (by (try simp); omega))).mono ?_; rintro e w12 ⟨rfl, b12⟩; obtain ⟨gc12, gf12⟩ := below_get b12; (try simp only [heap_drew, World.size_alloc, World.size_setCell] at gc12 gf12); have s12 := below_via (w := w11) (by go_grown) b12; have H12 := below_via H11 s12; have hs12 := b12.size; (try simp at hs12); have z12_0 : w1.heap.size < w12.heap.size := (by omega); have z12_1 : w1.heap.size + 1 < w12.heap.size := (by omega); have z12_2 : w2.heap.size < w12.heap.size := (by omega); have z12_3 : w3.heap.size < w12.heap.size := (by omega); have z12_4 : w4.heap.size < w12.heap.size := (by omega); have z12_5 : w8.heap.size < w12.heap.size := (by omega); clear b12))
            go_wp2
            go_returns
            exact ⟨rfl, by go_grown⟩
    · have k2 : decide (1048576 < (m : Int)) = true := by simp; omega
      go_enter Tryd.func6, Tryd.ntmps6
      go_wp2
      go_returns
      exact ⟨rfl, by go_grown⟩
  · have k1 : decide (1048576 < (n : Int)) = true := by simp; omega
    go_enter Tryd.func6, Tryd.ntmps6
    go_wp2
    go_returns
    exact ⟨rfl, by go_grown⟩
theorem fnPolicyNone_w (v0 v1 : Value) (W : World) (h0 : IsBytes W v0) (h1 : IsBytes W v1) (hK : PT W W.heap.size) : Calls Tryd.prog 6 #[v0, v1] W (RetB (.bool true) W) := by
  obtain ⟨A, n, c, xs, rfl, hr, hn, hcm, hx⟩ := h0
  obtain ⟨B, m, d, ys, rfl, hq, hm, hdm, hy⟩ := h1
  exact fnPolicyNone_law A n c xs B m d ys W hr hx hn (by unfold maxLen at hcm; omega) hq hy hm (by unfold maxLen at hdm; omega) hK
set_option maxRecDepth 100000 in
theorem fnPolicyNone_lifted (os : Os) (started : os.Started) (H : Type) (enc : TypeId × Value → H) :
    ReturnsInHanded {} Tryd.checked os 6 .any (fun w args => (Rows.fnPolicyNoneSpec.pre enc Tryd.prog Tryd.f6 [] false w args ∧ laidMetH Tryd.prog Rows.fnPolicyNoneRow.laid w) ∧ sizedMet enc Tryd.prog Tryd.f6 (OpenSpec.ofChange Rows.fnPolicyNoneSpec) false w args)
      (Rows.fnPolicyNoneSpec.post enc Tryd.prog Tryd.f6 false true false false) := by
  refine returnsInHanded_of_change_and (C := Tryd.checked) (X := fun w _ => laidMetH Tryd.prog Rows.fnPolicyNoneRow.laid w) (fun _ _ _ hh h => h.of_heap hh) own started (by kernel_rfl) Tryd.func6
    (ChangeSpec.witness_shaped (enc := enc) (C := Tryd.checked) (os := os) (X := fun w _ => laidMetH Tryd.prog Rows.fnPolicyNoneRow.laid w) false (World.doorLaid Tryd.prog 400 os) #[.slice none 0 0, .slice none 0 0] 8 rfl (World.shaped_of_RefB (by kernel_rfl) (by kernel_rfl)) (by kernel_rfl) (by kernel_rfl) (by kernel_rfl) (laid_met os _)) ?_
  intro W base args ds gs before hval0 hW _ _ hL _
  have hval : ∀ (j : Nat) t v, Tryd.f6.params[j]? = some t → args[j]? = some v → Value.okWide Tryd.prog W .any base t v := hval0
  have hW' := hW
  obtain ⟨p, q, hA0, hV, rfl, hfz, hnd⟩ := hW
  have hA : DataW.TrodAll enc Tryd.prog W 0 (fun _ => true) true Tryd.f6.params.toList args.toList ds p := hA0
  rw [Tryd.params6] at hA hval
  obtain ⟨v0, vs0, d0, ds0, p0, q0, hargs, rfl, rfl, h0, r0⟩ := trodAll_cons hA
  obtain ⟨v1, vs1, d1, ds1, p1, q1, rfl, rfl, rfl, h1, r1⟩ := trodAll_cons r0
  obtain ⟨rfl, rfl, rfl⟩ := trodAll_nil r1
  obtain rfl : args = #[v0, v1] := by cases args; simp_all
  obtain ⟨rfl, rfl⟩ := trodVars_none hV
  have k0 := h0
  have lt0 : ∀ x ∈ p0, x.block < W.heap.size := by obtain ⟨m, hm⟩ := k0; exact DataW.trod_lt m _ _ _ hm
  have o0 := open_Bytes (hval 0 22 v0 rfl rfl) h0
  have k1 := h1
  have lt1 : ∀ x ∈ p1, x.block < W.heap.size := by obtain ⟨m, hm⟩ := k1; exact DataW.trod_lt m _ _ _ hm
  have o1 := open_Bytes (hval 1 22 v1 rfl rfl) h1
  clear hA0 hval0
  refine (fnPolicyNone_w v0 v1 W o0 o1 (pt_of_laid hL)).mono fun e W' ⟨he, bel⟩ => ?_
  subst he
  exact ⟨_, rfl, _, _, _, [], _, [], hW', trodAll_mk1 (shut_bool Tryd.underlying4 _), (trodAll_cons_mk (Below.trod laidOut (by kernel_rfl) (of_decide_eq_true (by kernel_rfl)) k0 bel lt0) (trodAll_cons_mk (Below.trod laidOut (by kernel_rfl) (of_decide_eq_true (by kernel_rfl)) k1 bel lt1) trodAll_mk0)), rfl, bel.frame _, fun h => by cases h⟩

theorem fnPolicyNone_holds : Rows.FnPolicyNoneSaid :=
  OpenClaim.holds_of_wide 6 Tryd.f6 rfl rfl rfl rfl rfl rfl rfl ⟨rfl, rfl, rfl, rfl, rfl⟩ rfl rfl rfl rfl rfl (by kernel_rfl) Tryd.func6 (by kernel_rfl)
    (of_decide_eq_true (by kernel_rfl)) (by unfold Func.isWrapper; rw [if_neg (of_decide_eq_false (by kernel_rfl))]; exact ⟨rfl, rfl⟩)
    (fun os started H enc _ => fnPolicyNone_lifted os started H enc)
theorem fnPolicyNone_card : Rows.FnPolicyNoneCardSaid :=
  Claim7.holds_tied_plain_at .later [] [.data, .data, .data] true (true, "e5285b4dfec83ce1191f224f2249e333f59ff691aa3990693bdc3cbb67853b79") false
    fnPolicyNone_holds (fun _ h => by cases h) (by kernel_rfl) (fun _ h => by cases h) fnPolicyNone_row_tie rfl ⟨rfl, rfl⟩ (by kernel_rfl) rfl
    (fun f fn hf hfn => by
      obtain rfl : f = 6 := Option.some.inj ((show Tryd.prog.funcNamed "loop.example/gatelodge/laws.FnPolicyNone" = some 6 by kernel_rfl).symm.trans hf) |>.symm
      obtain rfl : fn = Tryd.f6 := (Option.some.inj (Tryd.func6.symm.trans hfn)).symm
      exact ⟨by kernel_rfl, fun j t ht => by
        rw [Tryd.params6] at ht
        have hm : t ∈ [22, 22] := by simpa using Array.mem_of_getElem? ht
        have hall : ([22, 22].all fun u => !Tryd.prog.wantsStandIn u) = true := by kernel_rfl
        exact (show Tryd.prog.wantsStandIn t = false by simpa using List.all_eq_true.1 hall t hm)⟩)
    (by kernel_rfl)
#print axioms fnPolicyNone_card
end Go.Proofs.YtljgaepgblakhaaDoor
