/- FnPolicyText's walk. Conditions: the drawn bytes'. -/
import Derived.Test.YtflhniobbdanjaaDoorJ56b6859133
import Derived.Test.YtflhniobbdanjaaDoorJffe11d970d
import Derived.Test.YtflhniobbdanjaaDoorJb78187fabf
import Derived.Test.YtflhniobbdanjaaDoorRegInv2
namespace Go.Proofs.YtflhniobbdanjaaDoor
set_option linter.unusedSimpArgs false
open Go.ChangeShapes Go.WideShapes Go.ChangeAt Go.RowKit
set_option linter.unusedVariables false
set_option linter.unnecessarySimpa false
set_option maxHeartbeats 8000000 in
set_option maxRecDepth 100000 in
theorem fnPolicyText_law (A : Option Addr) (n c : Nat) (xs : List Int) (B : Option Addr) (m d : Nat) (ys : List Int) (w : World) (hr : Rd w w.heap.size 1 A n (u8s xs)) (hx : ∀ x ∈ xs, 0 ≤ x ∧ x ≤ 255) (hc : n ≤ c) (hc2 : c ≤ 9223372036854775807)
    (hq : Rd w w.heap.size 1 B m (u8s ys)) (hy : ∀ x ∈ ys, 0 ≤ x ∧ x ≤ 255) (hd : m ≤ d) (hd2 : d ≤ 9223372036854775807) (hp : PT w w.heap.size) :
    Calls Tryd.prog 4 #[.slice A n c, .slice B m d] w (RetB (.bool true) w) := by
  have HR := Lib.hid hr
  have HX := Lib.hid hx
  have HQ := Lib.hid hq
  have HY := Lib.hid hy
  have HP := Lib.hid hp
  clear hr hx hq hy hp
  by_cases h1 : n ≤ 1048576
  · have k1 : decide (1048576 < (n : Int)) = false := by simp; omega
    by_cases h2 : m ≤ 1048576
    · have k2 : decide (1048576 < (m : Int)) = false := by simp; omega
      go_enter Tryd.func4, Tryd.ntmps4
      (go_wp2_with fail); (go_at_call 10; refine (drawPolicyRead_c A n c xs _ (HR.out.upB (by go_grown) (by go_size)) HX.out hc hc2).mono ?_; rintro e w1 ⟨TX, rfl, hT, b1⟩; obtain ⟨gc1, gf1⟩ := below_get b1; (try simp only [heap_drew, World.size_alloc, World.size_setCell] at gc1 gf1); have s1 := below_via (w := w) (by go_grown) b1; have H1 := s1; have hs1 := b1.size; (try simp at hs1); clear b1)
      obtain ⟨l, hl⟩ : ∃ l, TX = str l := ⟨TX.data.toList, (str_of TX).symm⟩
      obtain ⟨Rs, Re, at1, hfl, hge, hW, hS, hI⟩ := text_x l (by have := str_size l; rw [← hl] at this; omega)
      rw [← hl] at hW hS hI
      have HW := Lib.hid hW
      have HS := Lib.hid hS
      have HI := Lib.hid hI
      clear hW hS hI hl l
      (go_wp2_with fail); (go_at_call 6; refine (HI.out _).mono ?_; rintro e w2 ⟨A2, c2, qs2, rfl, e2, o2, p2, b2⟩; have R2 := Lib.hid (o2.rd); rw [e2] at R2; clear o2 p2 e2; obtain ⟨gc2, gf2⟩ := below_get b2; (try simp only [heap_drew, World.size_alloc, World.size_setCell] at gc2 gf2); have s2 := below_via (w := w1) (by go_grown) b2; have H2 := below_via H1 s2; have hs2 := b2.size; (try simp at hs2); clear b2)
      (go_wp2_with fail); (go_at_call 5; refine (HS.out _).mono ?_; rintro e w3 ⟨A3, c3, qs3, rfl, e3, o3, p3, b3⟩; have R3 := Lib.hid (o3.rd); rw [e3] at R3; clear o3 p3 e3; obtain ⟨gc3, gf3⟩ := below_get b3; (try simp only [heap_drew, World.size_alloc, World.size_setCell] at gc3 gf3); have s3 := below_via (w := w2) (by go_grown) b3; have H3 := below_via H2 s3; have hs3 := b3.size; (try simp at hs3); have z3_0 : w2.heap.size < w3.heap.size := (by omega); clear b3)
      (go_wp2_with fail); (go_at_call 11; refine (wgPolicy_c A2 A3 c2 c3 Rs Re _ ((R2.out.up s3).upB (by go_grown) (by go_size)) (R3.out.upB (by go_grown) (by go_size)) (by omega)).mono ?_; rintro e w4 ⟨rfl, b4⟩; obtain ⟨gc4, gf4⟩ := below_get b4; (try simp only [heap_drew, World.size_alloc, World.size_setCell] at gc4 gf4); have s4 := below_via (w := w3) (by go_grown) b4; have H4 := below_via H3 s4; have hs4 := b4.size; (try simp at hs4); have z4_0 : w2.heap.size < w4.heap.size := (by omega); have z4_1 : w3.heap.size < w4.heap.size := (by omega); clear b4)
      rcases Decidable.em (at1 = 0) with hz | hz
      case' inl =>
        have HWZ := Lib.hid (HW.out hz)
        subst hz
        (go_wp2_with fail); (go_at_call 12; refine (HWZ.out _ _ _ (((R2.out.up s3).up s4).upB (by go_grown) (by go_size)) ((HP.out.below (show Below w.heap.size w _ from below_via H4 (by go_grown))).more (by (try simp); omega))).mono ?_; rintro e w5 ⟨rfl, b5⟩; obtain ⟨gc5, gf5⟩ := below_get b5; (try simp only [heap_drew, World.size_alloc, World.size_setCell] at gc5 gf5); have s5 := below_via (w := w4) (by go_grown) b5; have H5 := below_via H4 s5; have hs5 := b5.size; (try simp at hs5); have z5_0 : w2.heap.size < w5.heap.size := (by omega); have z5_1 : w3.heap.size < w5.heap.size := (by omega); clear b5)
        have HX5 := Lib.hid H5
      case' inr =>
        have HX5 := Lib.hid H4
      all_goals
        rename World => wx
        go_wp2_with fail
        go_at_call 13
        refine (drawPolicyWriteT_c B m d ys _ (HQ.out.upB (show Below w.heap.size w wx from HX5.out) (by have := HX5.out.size; omega)) HY.out hd hd2).mono ?_
        rintro e w6 ⟨PA, pn, pc, qs, pe, rfl, o6, hpn, hl6, b6⟩
        have RP := Lib.hid o6.rd
        have H6 := below_via HX5.out b6
        have hs6 := b6.size
        obtain ⟨gc6, gf6⟩ := below_get b6
        clear o6 hl6 b6
        generalize rls qs = rs at *
        have hl6 := RP.out.1
        subst hl6
        obtain ⟨ok, S, Rb, Reb, nb, hyes, hno, hbl, hWI, hWS, hKI, hKS, hBI⟩ := back_x rs pe (by omega)
        have HWI := Lib.hid hWI
        have HWS := Lib.hid hWS
        have HKI := Lib.hid hKI
        have HKS := Lib.hid hKS
        have HBI := Lib.hid hBI
        have HYES := Lib.hid hyes
        have HNO := Lib.hid hno
        clear hWI hWS hKI hKS hBI hyes hno
        (go_wp2_with fail); (go_at_call 12; refine (HWI.out _ _ _ (RP.out.upB (by go_grown) (by go_size)) ((HP.out.below (show Below w.heap.size w _ from below_via H6 (by go_grown))).more (by (try simp); omega))).mono ?_; rintro e w7 ⟨rfl, b7⟩; obtain ⟨gc7, gf7⟩ := below_get b7; (try simp only [heap_drew, World.size_alloc, World.size_setCell] at gc7 gf7); have s7 := below_via (w := w6) (by go_grown) b7; have H7 := below_via H6 s7; have hs7 := b7.size; (try simp at hs7); have z7_0 : w6.heap.size < w7.heap.size := (by omega); clear b7)
        (go_wp2_with fail); (go_at_call 6; refine (HBI.out _).mono ?_; rintro e w8 ⟨A8, c8, qs8, rfl, e8, o8, p8, b8⟩; have R8 := Lib.hid (o8.rd); rw [e8] at R8; clear o8 p8 e8; obtain ⟨gc8, gf8⟩ := below_get b8; (try simp only [heap_drew, World.size_alloc, World.size_setCell] at gc8 gf8); have s8 := below_via (w := w7) (by go_grown) b8; have H8 := below_via H7 s8; have hs8 := b8.size; (try simp at hs8); have z8_0 : w6.heap.size < w8.heap.size := (by omega); clear b8)
        have RP8 : Hid (RdR w8 w8.heap.size PA rs.length rs) := Lib.hid ((((RP.out.up s7).up s8).upB (by go_grown) (by go_size)))
        have HP8 : Hid (PT w8 w8.heap.size) := Lib.hid (((HP.out.below (show Below w.heap.size w _ from below_via H8 (by go_grown))).more (by (try simp); omega)))
        go_wp2_with fail
        cases ok with
        | true =>
          obtain ⟨rfl, e1, e2⟩ := HYES.out rfl
          obtain rfl := e1.symm
          obtain rfl := e2.symm
          have R88 := R8
          clear HYES HNO
          refine wp_region_invG [some 66, some 67, some 68, some 69, some 70, some 71, some 72, some 73, some 74, some 75, some 76, some 77, some 78, some 79, some 80, some 81, some 82, some 83, some 84, some 85, some 86, some 87, some 88, some 89, some 90, some 91, some 92, some 4]
            (fun _ W0 => Below w8.heap.size w8 W0 ∧ W0.cell? ⟨w6.heap.size, 0, none⟩ = some (.slice PA rs.length pc) ∧ W0.cell? ⟨w6.heap.size, 1, none⟩ = some (.int .i64 pe) ∧ W0.cell? ⟨w8.heap.size, 0, none⟩ = some (.slice A8 rs.length c8) ∧ W0.cell? ⟨w8.heap.size, 1, none⟩ = some (.int .i64 pe))
            (fun j x _ => match j with | 0 => x = .string S | 1 => x = .agg #[.slice PA rs.length pc, .int .i64 pe] | 2 => x = .string S | 3 => x = .bool true | 4 => x = .bool true | 5 => x = .agg #[.slice PA rs.length pc, .int .i64 pe] | 6 => x = .bool true | 7 => x = .agg #[.slice PA rs.length pc, .int .i64 pe] | 8 => x = .bool true | 9 => x = .bool true | 10 => x = .bool true | 11 => x = .bool true | 12 => x = .int .i64 0 | 13 => x = .bool true | 14 => x = .agg #[.slice PA rs.length pc, .int .i64 pe] | 15 => x = .bool true | 16 => x = .bool true | 17 => x = .bool true | 18 => x = .bool true | 19 => x = .int .i64 0 | 20 => x = .bool false | 21 => x = .bool false | 22 => x = .agg #[.slice A8 rs.length c8, .int .i64 pe] | 23 => x = .agg #[.slice PA rs.length pc, .int .i64 pe] | 24 => x = .bool true | 25 => x = .bool true | 26 => x = .bool true | 27 => x = .bool true | _ => True) (by kernel_rfl) (by kernel_rfl) (by refine ⟨by go_grown, ?_, ?_, ?_, ?_⟩ <;> simp [go_sem, *]) ?_ ?_
          · simp only [setAll, putS, List.zipIdx_cons, List.zipIdx_nil, List.foldl_cons, List.foldl_nil, Nat.reduceAdd, List.setIfInBounds_toArray, List.set_cons_zero, List.set_cons_succ]
            refine ⟨fun u w0 c0 hc0 hW hd K hK => ?_, ?_⟩
            · obtain ⟨hB, hc0, hc1, hc2, hc3⟩ := hW
              refine if_yes rfl ?_
              go_simp
              refine ka (hK (.string S) w0 ⟨hB, hc0, hc1, hc2, hc3⟩ (fun _ _ h => h) rfl) ?_
              simp [updU, *]
            refine ⟨fun u w0 c0 hc0 hW hd K hK => ?_, ?_⟩
            · obtain ⟨hB, hc0, hc1, hc2, hc3⟩ := hW
              refine if_yes rfl ?_
              go_simp
              refine ka (hK (.agg #[.slice PA rs.length pc, .int .i64 pe]) w0 ⟨hB, hc0, hc1, hc2, hc3⟩ (fun _ _ h => h) rfl) ?_
              simp [updU, *]
            refine ⟨fun u w0 c0 hc0 hW hd K hK => ?_, ?_⟩
            · obtain ⟨hB, hc0, hc1, hc2, hc3⟩ := hW
              have e1 : u 1 = .agg #[.slice PA rs.length pc, .int .i64 pe] := hd 1 (of_decide_eq_true (by kernel_rfl))
              refine if_yes rfl ?_
              go_simp
              (go_at_call 14; refine (HWS.out _ _ _ (RP8.out.upB hB hB.size)).mono ?_; rintro e w5 ⟨rfl, b5⟩; (refine ka (hK (.string S) w5 ⟨below_via hB b5, cell_up hc0 b5, cell_up hc1 b5, cell_up hc2 b5, cell_up hc3 b5⟩ (fun _ _ h => h) rfl) ?_); (simp [updU, *]))
            refine ⟨fun u w0 c0 hc0 hW hd K hK => ?_, ?_⟩
            · obtain ⟨hB, hc0, hc1, hc2, hc3⟩ := hW
              have e0 : u 0 = .string S := hd 0 (of_decide_eq_true (by kernel_rfl))
              have e2 : u 2 = .string S := hd 2 (of_decide_eq_true (by kernel_rfl))
              refine if_yes rfl ?_
              go_simp
              refine ka (hK (.bool true) w0 ⟨hB, hc0, hc1, hc2, hc3⟩ (fun _ _ h => h) rfl) ?_
              simp [updU, *]
            refine ⟨fun u w0 c0 hc0 hW hd K hK => ?_, ?_⟩
            · obtain ⟨hB, hc0, hc1, hc2, hc3⟩ := hW
              have e2 : u 2 = .string S := hd 2 (of_decide_eq_true (by kernel_rfl))
              have e3 : u 3 = .bool true := hd 3 (of_decide_eq_true (by kernel_rfl))
              refine if_yes rfl ?_
              go_simp
              refine ka (hK (.bool true) w0 ⟨hB, hc0, hc1, hc2, hc3⟩ (fun _ _ h => h) rfl) ?_
              simp [updU, *]
            refine ⟨fun u w0 c0 hc0 hW hd K hK => ?_, ?_⟩
            · obtain ⟨hB, hc0, hc1, hc2, hc3⟩ := hW
              have e4 : u 4 = .bool true := hd 4 (of_decide_eq_true (by kernel_rfl))
              refine if_yes (by rw [wanted_of (j := 4) (s := 70) (want := true) (b := true) rfl rfl (by first | exact congrArg some e4 | simp [e4])]; rfl) ?_
              go_simp
              refine ka (hK (.agg #[.slice PA rs.length pc, .int .i64 pe]) w0 ⟨hB, hc0, hc1, hc2, hc3⟩ (fun _ _ h => h) rfl) ?_
              simp [updU, *]
            refine ⟨fun u w0 c0 hc0 hW hd K hK => ?_, ?_⟩
            · obtain ⟨hB, hc0, hc1, hc2, hc3⟩ := hW
              have e4 : u 4 = .bool true := hd 4 (of_decide_eq_true (by kernel_rfl))
              have e5 : u 5 = .agg #[.slice PA rs.length pc, .int .i64 pe] := hd 5 (of_decide_eq_true (by kernel_rfl))
              refine if_yes (by rw [wanted_of (j := 4) (s := 70) (want := true) (b := true) rfl rfl (by first | exact congrArg some e4 | simp [e4])]; rfl) ?_
              go_simp
              (go_at_call 15; refine (HKI.out _ _ _ (RP8.out.upB hB hB.size) ((HP8.out.below hB).more hB.size)).mono ?_; rintro e w5 ⟨rfl, b5⟩; (refine ka (hK (.bool true) w5 ⟨below_via hB b5, cell_up hc0 b5, cell_up hc1 b5, cell_up hc2 b5, cell_up hc3 b5⟩ (fun _ _ h => h) rfl) ?_); (simp [updU, *]))
            refine ⟨fun u w0 c0 hc0 hW hd K hK => ?_, ?_⟩
            · obtain ⟨hB, hc0, hc1, hc2, hc3⟩ := hW
              have e4 : u 4 = .bool true := hd 4 (of_decide_eq_true (by kernel_rfl))
              refine if_yes (by rw [wanted_of (j := 4) (s := 70) (want := true) (b := true) rfl rfl (by first | exact congrArg some e4 | simp [e4])]; rfl) ?_
              go_simp
              refine ka (hK (.agg #[.slice PA rs.length pc, .int .i64 pe]) w0 ⟨hB, hc0, hc1, hc2, hc3⟩ (fun _ _ h => h) rfl) ?_
              simp [updU, *]
            refine ⟨fun u w0 c0 hc0 hW hd K hK => ?_, ?_⟩
            · obtain ⟨hB, hc0, hc1, hc2, hc3⟩ := hW
              have e4 : u 4 = .bool true := hd 4 (of_decide_eq_true (by kernel_rfl))
              have e6 : u 6 = .bool true := hd 6 (of_decide_eq_true (by kernel_rfl))
              have e7 : u 7 = .agg #[.slice PA rs.length pc, .int .i64 pe] := hd 7 (of_decide_eq_true (by kernel_rfl))
              refine if_yes (by rw [wanted_of (j := 4) (s := 70) (want := true) (b := true) rfl rfl (by first | exact congrArg some e4 | simp [e4])]; rfl) ?_
              go_simp
              (go_at_call 16; refine (HKS.out _ _ _ (RP8.out.upB hB hB.size)).mono ?_; rintro e w5 ⟨rfl, b5⟩; (refine ka (hK (.bool true) w5 ⟨below_via hB b5, cell_up hc0 b5, cell_up hc1 b5, cell_up hc2 b5, cell_up hc3 b5⟩ (fun _ _ h => h) rfl) ?_); (simp [updU, *]))
            refine ⟨fun u w0 c0 hc0 hW hd K hK => ?_, ?_⟩
            · obtain ⟨hB, hc0, hc1, hc2, hc3⟩ := hW
              have e4 : u 4 = .bool true := hd 4 (of_decide_eq_true (by kernel_rfl))
              have e6 : u 6 = .bool true := hd 6 (of_decide_eq_true (by kernel_rfl))
              have e8 : u 8 = .bool true := hd 8 (of_decide_eq_true (by kernel_rfl))
              refine if_yes (by rw [wanted_of (j := 4) (s := 70) (want := true) (b := true) rfl rfl (by first | exact congrArg some e4 | simp [e4])]; rfl) ?_
              go_simp
              refine ka (hK (.bool true) w0 ⟨hB, hc0, hc1, hc2, hc3⟩ (fun _ _ h => h) rfl) ?_
              simp [updU, *]
            refine ⟨fun u w0 c0 hc0 hW hd K hK => ?_, ?_⟩
            · obtain ⟨hB, hc0, hc1, hc2, hc3⟩ := hW
              have e4 : u 4 = .bool true := hd 4 (of_decide_eq_true (by kernel_rfl))
              have e9 : u 9 = .bool true := hd 9 (of_decide_eq_true (by kernel_rfl))
              refine if_yes rfl ?_
              go_simp
              refine ka (hK (.bool true) w0 ⟨hB, hc0, hc1, hc2, hc3⟩ (fun _ _ h => h) rfl) ?_
              simp [updU, *]
            refine ⟨fun u w0 c0 hc0 hW hd K hK => ?_, ?_⟩
            · obtain ⟨hB, hc0, hc1, hc2, hc3⟩ := hW
              have e8 : u 8 = .bool true := hd 8 (of_decide_eq_true (by kernel_rfl))
              have e10 : u 10 = .bool true := hd 10 (of_decide_eq_true (by kernel_rfl))
              refine if_yes rfl ?_
              go_simp
              refine ka (hK (.bool true) w0 ⟨hB, hc0, hc1, hc2, hc3⟩ (fun _ _ h => h) rfl) ?_
              simp [updU, *]
            refine ⟨fun u w0 c0 hc0 hW hd K hK => ?_, ?_⟩
            · obtain ⟨hB, hc0, hc1, hc2, hc3⟩ := hW
              have e11 : u 11 = .bool true := hd 11 (of_decide_eq_true (by kernel_rfl))
              refine if_yes (by rw [wanted_of (j := 11) (s := 77) (want := true) (b := true) rfl rfl (by first | exact congrArg some e11 | simp [e11])]; rfl) ?_
              go_simp
              refine ka (hK (.int .i64 0) w0 ⟨hB, hc0, hc1, hc2, hc3⟩ (fun _ _ h => h) rfl) ?_
              simp [updU, *]
            refine ⟨fun u w0 c0 hc0 hW hd K hK => ?_, ?_⟩
            · obtain ⟨hB, hc0, hc1, hc2, hc3⟩ := hW
              have e11 : u 11 = .bool true := hd 11 (of_decide_eq_true (by kernel_rfl))
              have e12 : u 12 = .int .i64 0 := hd 12 (of_decide_eq_true (by kernel_rfl))
              refine if_yes (by rw [wanted_of (j := 11) (s := 77) (want := true) (b := true) rfl rfl (by first | exact congrArg some e11 | simp [e11])]; rfl) ?_
              go_simp
              refine ka (hK (.bool true) w0 ⟨hB, hc0, hc1, hc2, hc3⟩ (fun _ _ h => h) rfl) ?_
              simp [updU, *]
            refine ⟨fun u w0 c0 hc0 hW hd K hK => ?_, ?_⟩
            · obtain ⟨hB, hc0, hc1, hc2, hc3⟩ := hW
              have e11 : u 11 = .bool true := hd 11 (of_decide_eq_true (by kernel_rfl))
              refine if_yes (by rw [wanted_of (j := 11) (s := 77) (want := true) (b := true) rfl rfl (by first | exact congrArg some e11 | simp [e11])]; rfl) ?_
              go_simp
              refine ka (hK (.agg #[.slice PA rs.length pc, .int .i64 pe]) w0 ⟨hB, hc0, hc1, hc2, hc3⟩ (fun _ _ h => h) rfl) ?_
              simp [updU, *]
            refine ⟨fun u w0 c0 hc0 hW hd K hK => ?_, ?_⟩
            · obtain ⟨hB, hc0, hc1, hc2, hc3⟩ := hW
              have e11 : u 11 = .bool true := hd 11 (of_decide_eq_true (by kernel_rfl))
              have e14 : u 14 = .agg #[.slice PA rs.length pc, .int .i64 pe] := hd 14 (of_decide_eq_true (by kernel_rfl))
              refine if_yes (by rw [wanted_of (j := 11) (s := 77) (want := true) (b := true) rfl rfl (by first | exact congrArg some e11 | simp [e11])]; rfl) ?_
              go_simp
              (go_at_call 16; refine (HKS.out _ _ _ (RP8.out.upB hB hB.size)).mono ?_; rintro e w5 ⟨rfl, b5⟩; (refine ka (hK (.bool true) w5 ⟨below_via hB b5, cell_up hc0 b5, cell_up hc1 b5, cell_up hc2 b5, cell_up hc3 b5⟩ (fun _ _ h => h) rfl) ?_); (simp [updU, *]))
            refine ⟨fun u w0 c0 hc0 hW hd K hK => ?_, ?_⟩
            · obtain ⟨hB, hc0, hc1, hc2, hc3⟩ := hW
              have e11 : u 11 = .bool true := hd 11 (of_decide_eq_true (by kernel_rfl))
              have e13 : u 13 = .bool true := hd 13 (of_decide_eq_true (by kernel_rfl))
              have e15 : u 15 = .bool true := hd 15 (of_decide_eq_true (by kernel_rfl))
              refine if_yes (by rw [wanted_of (j := 11) (s := 77) (want := true) (b := true) rfl rfl (by first | exact congrArg some e11 | simp [e11])]; rfl) ?_
              go_simp
              refine ka (hK (.bool true) w0 ⟨hB, hc0, hc1, hc2, hc3⟩ (fun _ _ h => h) rfl) ?_
              simp [updU, *]
            refine ⟨fun u w0 c0 hc0 hW hd K hK => ?_, ?_⟩
            · obtain ⟨hB, hc0, hc1, hc2, hc3⟩ := hW
              have e11 : u 11 = .bool true := hd 11 (of_decide_eq_true (by kernel_rfl))
              have e16 : u 16 = .bool true := hd 16 (of_decide_eq_true (by kernel_rfl))
              refine if_yes rfl ?_
              go_simp
              refine ka (hK (.bool true) w0 ⟨hB, hc0, hc1, hc2, hc3⟩ (fun _ _ h => h) rfl) ?_
              simp [updU, *]
            refine ⟨fun u w0 c0 hc0 hW hd K hK => ?_, ?_⟩
            · obtain ⟨hB, hc0, hc1, hc2, hc3⟩ := hW
              have e15 : u 15 = .bool true := hd 15 (of_decide_eq_true (by kernel_rfl))
              have e17 : u 17 = .bool true := hd 17 (of_decide_eq_true (by kernel_rfl))
              refine if_yes rfl ?_
              go_simp
              refine ka (hK (.bool true) w0 ⟨hB, hc0, hc1, hc2, hc3⟩ (fun _ _ h => h) rfl) ?_
              simp [updU, *]
            refine ⟨fun u w0 c0 hc0 hW hd K hK => ?_, ?_⟩
            · obtain ⟨hB, hc0, hc1, hc2, hc3⟩ := hW
              have e18 : u 18 = .bool true := hd 18 (of_decide_eq_true (by kernel_rfl))
              refine if_yes (by rw [wanted_of (j := 18) (s := 84) (want := true) (b := true) rfl rfl (by first | exact congrArg some e18 | simp [e18])]; rfl) ?_
              go_simp
              refine ka (hK (.int .i64 0) w0 ⟨hB, hc0, hc1, hc2, hc3⟩ (fun _ _ h => h) rfl) ?_
              simp [updU, *]
            refine ⟨fun u w0 c0 hc0 hW hd K hK => ?_, ?_⟩
            · obtain ⟨hB, hc0, hc1, hc2, hc3⟩ := hW
              have e18 : u 18 = .bool true := hd 18 (of_decide_eq_true (by kernel_rfl))
              have e19 : u 19 = .int .i64 0 := hd 19 (of_decide_eq_true (by kernel_rfl))
              refine if_yes (by rw [wanted_of (j := 18) (s := 84) (want := true) (b := true) rfl rfl (by first | exact congrArg some e18 | simp [e18])]; rfl) ?_
              go_simp
              refine ka (hK (.bool false) w0 ⟨hB, hc0, hc1, hc2, hc3⟩ (fun _ _ h => h) rfl) ?_
              simp [updU, *]
            refine ⟨fun u w0 c0 hc0 hW hd K hK => ?_, ?_⟩
            · obtain ⟨hB, hc0, hc1, hc2, hc3⟩ := hW
              have e18 : u 18 = .bool true := hd 18 (of_decide_eq_true (by kernel_rfl))
              have e20 : u 20 = .bool false := hd 20 (of_decide_eq_true (by kernel_rfl))
              refine if_yes (by rw [wanted_of (j := 18) (s := 84) (want := true) (b := true) rfl rfl (by first | exact congrArg some e18 | simp [e18])]; rfl) ?_
              go_simp
              refine ka (hK (.bool false) w0 ⟨hB, hc0, hc1, hc2, hc3⟩ (fun _ _ h => h) rfl) ?_
              simp [updU, *]
            refine ⟨fun u w0 c0 hc0 hW hd K hK => ?_, ?_⟩
            · obtain ⟨hB, hc0, hc1, hc2, hc3⟩ := hW
              have e21 : u 21 = .bool false := hd 21 (of_decide_eq_true (by kernel_rfl))
              refine if_yes (by rw [wanted_of (j := 21) (s := 87) (want := false) (b := false) rfl rfl (by first | exact congrArg some e21 | simp [e21])]; rfl) ?_
              go_simp
              refine ka (hK (.agg #[.slice A8 rs.length c8, .int .i64 pe]) w0 ⟨hB, hc0, hc1, hc2, hc3⟩ (fun _ _ h => h) rfl) ?_
              simp [updU, *]
            refine ⟨fun u w0 c0 hc0 hW hd K hK => ?_, ?_⟩
            · obtain ⟨hB, hc0, hc1, hc2, hc3⟩ := hW
              have e21 : u 21 = .bool false := hd 21 (of_decide_eq_true (by kernel_rfl))
              refine if_yes (by rw [wanted_of (j := 21) (s := 87) (want := false) (b := false) rfl rfl (by first | exact congrArg some e21 | simp [e21])]; rfl) ?_
              go_simp
              refine ka (hK (.agg #[.slice PA rs.length pc, .int .i64 pe]) w0 ⟨hB, hc0, hc1, hc2, hc3⟩ (fun _ _ h => h) rfl) ?_
              simp [updU, *]
            refine ⟨fun u w0 c0 hc0 hW hd K hK => ?_, ?_⟩
            · obtain ⟨hB, hc0, hc1, hc2, hc3⟩ := hW
              have e21 : u 21 = .bool false := hd 21 (of_decide_eq_true (by kernel_rfl))
              have e22 : u 22 = .agg #[.slice A8 rs.length c8, .int .i64 pe] := hd 22 (of_decide_eq_true (by kernel_rfl))
              have e23 : u 23 = .agg #[.slice PA rs.length pc, .int .i64 pe] := hd 23 (of_decide_eq_true (by kernel_rfl))
              refine if_yes (by rw [wanted_of (j := 21) (s := 87) (want := false) (b := false) rfl rfl (by first | exact congrArg some e21 | simp [e21])]; rfl) ?_
              go_simp
              (go_at_call 11; refine (wgPolicy_c A8 PA c8 pc rs pe _ (R88.out.upB hB hB.size) (RP8.out.upB hB hB.size) (by omega)).mono ?_; rintro e w5 ⟨rfl, b5⟩; (refine ka (hK (.bool true) w5 ⟨below_via hB b5, cell_up hc0 b5, cell_up hc1 b5, cell_up hc2 b5, cell_up hc3 b5⟩ (fun _ _ h => h) rfl) ?_); (simp [updU, *]))
            refine ⟨fun u w0 c0 hc0 hW hd K hK => ?_, ?_⟩
            · obtain ⟨hB, hc0, hc1, hc2, hc3⟩ := hW
              have e18 : u 18 = .bool true := hd 18 (of_decide_eq_true (by kernel_rfl))
              have e21 : u 21 = .bool false := hd 21 (of_decide_eq_true (by kernel_rfl))
              have e24 : u 24 = .bool true := hd 24 (of_decide_eq_true (by kernel_rfl))
              refine if_yes (by rw [wanted_of (j := 18) (s := 84) (want := true) (b := true) rfl rfl (by first | exact congrArg some e18 | simp [e18])]; rfl) ?_
              go_simp
              refine ka (hK (.bool true) w0 ⟨hB, hc0, hc1, hc2, hc3⟩ (fun _ _ h => h) rfl) ?_
              simp [updU, *]
            refine ⟨fun u w0 c0 hc0 hW hd K hK => ?_, ?_⟩
            · obtain ⟨hB, hc0, hc1, hc2, hc3⟩ := hW
              have e18 : u 18 = .bool true := hd 18 (of_decide_eq_true (by kernel_rfl))
              have e25 : u 25 = .bool true := hd 25 (of_decide_eq_true (by kernel_rfl))
              refine if_yes rfl ?_
              go_simp
              refine ka (hK (.bool true) w0 ⟨hB, hc0, hc1, hc2, hc3⟩ (fun _ _ h => h) rfl) ?_
              simp [updU, *]
            refine ⟨fun u w0 c0 hc0 hW hd K hK => ?_, ?_⟩
            · obtain ⟨hB, hc0, hc1, hc2, hc3⟩ := hW
              have e0 : u 0 = .string S := hd 0 (of_decide_eq_true (by kernel_rfl))
              have e1 : u 1 = .agg #[.slice PA rs.length pc, .int .i64 pe] := hd 1 (of_decide_eq_true (by kernel_rfl))
              have e2 : u 2 = .string S := hd 2 (of_decide_eq_true (by kernel_rfl))
              have e3 : u 3 = .bool true := hd 3 (of_decide_eq_true (by kernel_rfl))
              have e4 : u 4 = .bool true := hd 4 (of_decide_eq_true (by kernel_rfl))
              have e5 : u 5 = .agg #[.slice PA rs.length pc, .int .i64 pe] := hd 5 (of_decide_eq_true (by kernel_rfl))
              have e6 : u 6 = .bool true := hd 6 (of_decide_eq_true (by kernel_rfl))
              have e7 : u 7 = .agg #[.slice PA rs.length pc, .int .i64 pe] := hd 7 (of_decide_eq_true (by kernel_rfl))
              have e8 : u 8 = .bool true := hd 8 (of_decide_eq_true (by kernel_rfl))
              have e9 : u 9 = .bool true := hd 9 (of_decide_eq_true (by kernel_rfl))
              have e10 : u 10 = .bool true := hd 10 (of_decide_eq_true (by kernel_rfl))
              have e11 : u 11 = .bool true := hd 11 (of_decide_eq_true (by kernel_rfl))
              have e12 : u 12 = .int .i64 0 := hd 12 (of_decide_eq_true (by kernel_rfl))
              have e13 : u 13 = .bool true := hd 13 (of_decide_eq_true (by kernel_rfl))
              have e14 : u 14 = .agg #[.slice PA rs.length pc, .int .i64 pe] := hd 14 (of_decide_eq_true (by kernel_rfl))
              have e15 : u 15 = .bool true := hd 15 (of_decide_eq_true (by kernel_rfl))
              have e16 : u 16 = .bool true := hd 16 (of_decide_eq_true (by kernel_rfl))
              have e17 : u 17 = .bool true := hd 17 (of_decide_eq_true (by kernel_rfl))
              have e18 : u 18 = .bool true := hd 18 (of_decide_eq_true (by kernel_rfl))
              have e19 : u 19 = .int .i64 0 := hd 19 (of_decide_eq_true (by kernel_rfl))
              have e20 : u 20 = .bool false := hd 20 (of_decide_eq_true (by kernel_rfl))
              have e21 : u 21 = .bool false := hd 21 (of_decide_eq_true (by kernel_rfl))
              have e22 : u 22 = .agg #[.slice A8 rs.length c8, .int .i64 pe] := hd 22 (of_decide_eq_true (by kernel_rfl))
              have e23 : u 23 = .agg #[.slice PA rs.length pc, .int .i64 pe] := hd 23 (of_decide_eq_true (by kernel_rfl))
              have e24 : u 24 = .bool true := hd 24 (of_decide_eq_true (by kernel_rfl))
              have e25 : u 25 = .bool true := hd 25 (of_decide_eq_true (by kernel_rfl))
              have e26 : u 26 = .bool true := hd 26 (of_decide_eq_true (by kernel_rfl))
              refine if_yes rfl ?_
              go_simp
              refine ka (hK (.bool true) w0 ⟨hB, hc0, hc1, hc2, hc3⟩ (fun _ _ h => h) rfl) ?_
              simp [updU, *]
            exact trivial
          · intro u w9 hW hV
            obtain ⟨hB, hc0, hc1, hc2, hc3⟩ := hW
            have e0 : u 0 = .string S := hV 0 (by decide)
            have e1 : u 1 = .agg #[.slice PA rs.length pc, .int .i64 pe] := hV 1 (by decide)
            have e2 : u 2 = .string S := hV 2 (by decide)
            have e3 : u 3 = .bool true := hV 3 (by decide)
            have e4 : u 4 = .bool true := hV 4 (by decide)
            have e5 : u 5 = .agg #[.slice PA rs.length pc, .int .i64 pe] := hV 5 (by decide)
            have e6 : u 6 = .bool true := hV 6 (by decide)
            have e7 : u 7 = .agg #[.slice PA rs.length pc, .int .i64 pe] := hV 7 (by decide)
            have e8 : u 8 = .bool true := hV 8 (by decide)
            have e9 : u 9 = .bool true := hV 9 (by decide)
            have e10 : u 10 = .bool true := hV 10 (by decide)
            have e11 : u 11 = .bool true := hV 11 (by decide)
            have e12 : u 12 = .int .i64 0 := hV 12 (by decide)
            have e13 : u 13 = .bool true := hV 13 (by decide)
            have e14 : u 14 = .agg #[.slice PA rs.length pc, .int .i64 pe] := hV 14 (by decide)
            have e15 : u 15 = .bool true := hV 15 (by decide)
            have e16 : u 16 = .bool true := hV 16 (by decide)
            have e17 : u 17 = .bool true := hV 17 (by decide)
            have e18 : u 18 = .bool true := hV 18 (by decide)
            have e19 : u 19 = .int .i64 0 := hV 19 (by decide)
            have e20 : u 20 = .bool false := hV 20 (by decide)
            have e21 : u 21 = .bool false := hV 21 (by decide)
            have e22 : u 22 = .agg #[.slice A8 rs.length c8, .int .i64 pe] := hV 22 (by decide)
            have e23 : u 23 = .agg #[.slice PA rs.length pc, .int .i64 pe] := hV 23 (by decide)
            have e24 : u 24 = .bool true := hV 24 (by decide)
            have e25 : u 25 = .bool true := hV 25 (by decide)
            have e26 : u 26 = .bool true := hV 26 (by decide)
            have e27 : u 27 = .bool true := hV 27 (by decide)
            simp only [setAll, putS, List.zipIdx_cons, List.zipIdx_nil, List.foldl_cons, List.foldl_nil, Nat.reduceAdd, List.setIfInBounds_toArray, List.set_cons_zero, List.set_cons_succ]
            simp only [e0, e1, e2, e3, e4, e5, e6, e7, e8, e9, e10, e11, e12, e13, e14, e15, e16, e17, e18, e19, e20, e21, e22, e23, e24, e25, e26, e27]
            clear hV e0 e1 e2 e3 e4 e5 e6 e7 e8 e9 e10 e11 e12 e13 e14 e15 e16 e17 e18 e19 e20 e21 e22 e23 e24 e25 e26 e27 
            go_wp2
            go_returns
            exact ⟨rfl, below_via H8 hB⟩
        | false =>
          obtain rfl := HNO.out rfl
          clear HYES HNO
          refine wp_region_invG [some 66, some 67, some 68, some 69, some 70, some 71, some 72, some 73, some 74, some 75, some 76, some 77, some 78, some 79, some 80, some 81, some 82, some 83, some 84, some 85, some 86, some 87, some 88, some 89, some 90, some 91, some 92, some 4]
            (fun _ W0 => Below w8.heap.size w8 W0 ∧ W0.cell? ⟨w6.heap.size, 0, none⟩ = some (.slice PA rs.length pc) ∧ W0.cell? ⟨w6.heap.size, 1, none⟩ = some (.int .i64 pe))
            (fun j x _ => match j with | 0 => x = .string S | 1 => x = .agg #[.slice PA rs.length pc, .int .i64 pe] | 2 => x = .string S | 3 => x = .bool true | 4 => x = .bool true | 5 => x = .agg #[.slice PA rs.length pc, .int .i64 pe] | 6 => x = .bool false | 7 => x = .agg #[.slice PA rs.length pc, .int .i64 pe] | 8 => x = .bool false | 9 => x = .bool true | 10 => x = .bool true | 11 => x = .bool true | 12 => x = .int .i64 1 | 13 => x = .bool false | 14 => x = .agg #[.slice PA rs.length pc, .int .i64 pe] | 15 => x = .bool false | 16 => x = .bool true | 17 => x = .bool true | 18 => x = .bool true | 19 => x = .int .i64 1 | 20 => x = .bool true | 21 => x = .bool true | 22 => x = undef | 23 => x = undef | 24 => x = undef | 25 => x = .bool true | 26 => x = .bool true | 27 => x = .bool true | _ => True) (by kernel_rfl) (by kernel_rfl) (by refine ⟨by go_grown, ?_, ?_⟩ <;> simp [go_sem, *]) ?_ ?_
          · simp only [setAll, putS, List.zipIdx_cons, List.zipIdx_nil, List.foldl_cons, List.foldl_nil, Nat.reduceAdd, List.setIfInBounds_toArray, List.set_cons_zero, List.set_cons_succ]
            refine ⟨fun u w0 c0 hc0 hW hd K hK => ?_, ?_⟩
            · obtain ⟨hB, hc0, hc1⟩ := hW
              refine if_yes rfl ?_
              go_simp
              refine ka (hK (.string S) w0 ⟨hB, hc0, hc1⟩ (fun _ _ h => h) rfl) ?_
              simp [updU, *]
            refine ⟨fun u w0 c0 hc0 hW hd K hK => ?_, ?_⟩
            · obtain ⟨hB, hc0, hc1⟩ := hW
              refine if_yes rfl ?_
              go_simp
              refine ka (hK (.agg #[.slice PA rs.length pc, .int .i64 pe]) w0 ⟨hB, hc0, hc1⟩ (fun _ _ h => h) rfl) ?_
              simp [updU, *]
            refine ⟨fun u w0 c0 hc0 hW hd K hK => ?_, ?_⟩
            · obtain ⟨hB, hc0, hc1⟩ := hW
              have e1 : u 1 = .agg #[.slice PA rs.length pc, .int .i64 pe] := hd 1 (of_decide_eq_true (by kernel_rfl))
              refine if_yes rfl ?_
              go_simp
              (go_at_call 14; refine (HWS.out _ _ _ (RP8.out.upB hB hB.size)).mono ?_; rintro e w5 ⟨rfl, b5⟩; (refine ka (hK (.string S) w5 ⟨below_via hB b5, cell_up hc0 b5, cell_up hc1 b5⟩ (fun _ _ h => h) rfl) ?_); (simp [updU, *]))
            refine ⟨fun u w0 c0 hc0 hW hd K hK => ?_, ?_⟩
            · obtain ⟨hB, hc0, hc1⟩ := hW
              have e0 : u 0 = .string S := hd 0 (of_decide_eq_true (by kernel_rfl))
              have e2 : u 2 = .string S := hd 2 (of_decide_eq_true (by kernel_rfl))
              refine if_yes rfl ?_
              go_simp
              refine ka (hK (.bool true) w0 ⟨hB, hc0, hc1⟩ (fun _ _ h => h) rfl) ?_
              simp [updU, *]
            refine ⟨fun u w0 c0 hc0 hW hd K hK => ?_, ?_⟩
            · obtain ⟨hB, hc0, hc1⟩ := hW
              have e2 : u 2 = .string S := hd 2 (of_decide_eq_true (by kernel_rfl))
              have e3 : u 3 = .bool true := hd 3 (of_decide_eq_true (by kernel_rfl))
              refine if_yes rfl ?_
              go_simp
              refine ka (hK (.bool true) w0 ⟨hB, hc0, hc1⟩ (fun _ _ h => h) rfl) ?_
              simp [updU, *]
            refine ⟨fun u w0 c0 hc0 hW hd K hK => ?_, ?_⟩
            · obtain ⟨hB, hc0, hc1⟩ := hW
              have e4 : u 4 = .bool true := hd 4 (of_decide_eq_true (by kernel_rfl))
              refine if_yes (by rw [wanted_of (j := 4) (s := 70) (want := true) (b := true) rfl rfl (by first | exact congrArg some e4 | simp [e4])]; rfl) ?_
              go_simp
              refine ka (hK (.agg #[.slice PA rs.length pc, .int .i64 pe]) w0 ⟨hB, hc0, hc1⟩ (fun _ _ h => h) rfl) ?_
              simp [updU, *]
            refine ⟨fun u w0 c0 hc0 hW hd K hK => ?_, ?_⟩
            · obtain ⟨hB, hc0, hc1⟩ := hW
              have e4 : u 4 = .bool true := hd 4 (of_decide_eq_true (by kernel_rfl))
              have e5 : u 5 = .agg #[.slice PA rs.length pc, .int .i64 pe] := hd 5 (of_decide_eq_true (by kernel_rfl))
              refine if_yes (by rw [wanted_of (j := 4) (s := 70) (want := true) (b := true) rfl rfl (by first | exact congrArg some e4 | simp [e4])]; rfl) ?_
              go_simp
              (go_at_call 15; refine (HKI.out _ _ _ (RP8.out.upB hB hB.size) ((HP8.out.below hB).more hB.size)).mono ?_; rintro e w5 ⟨rfl, b5⟩; (refine ka (hK (.bool false) w5 ⟨below_via hB b5, cell_up hc0 b5, cell_up hc1 b5⟩ (fun _ _ h => h) rfl) ?_); (simp [updU, *]))
            refine ⟨fun u w0 c0 hc0 hW hd K hK => ?_, ?_⟩
            · obtain ⟨hB, hc0, hc1⟩ := hW
              have e4 : u 4 = .bool true := hd 4 (of_decide_eq_true (by kernel_rfl))
              refine if_yes (by rw [wanted_of (j := 4) (s := 70) (want := true) (b := true) rfl rfl (by first | exact congrArg some e4 | simp [e4])]; rfl) ?_
              go_simp
              refine ka (hK (.agg #[.slice PA rs.length pc, .int .i64 pe]) w0 ⟨hB, hc0, hc1⟩ (fun _ _ h => h) rfl) ?_
              simp [updU, *]
            refine ⟨fun u w0 c0 hc0 hW hd K hK => ?_, ?_⟩
            · obtain ⟨hB, hc0, hc1⟩ := hW
              have e4 : u 4 = .bool true := hd 4 (of_decide_eq_true (by kernel_rfl))
              have e6 : u 6 = .bool false := hd 6 (of_decide_eq_true (by kernel_rfl))
              have e7 : u 7 = .agg #[.slice PA rs.length pc, .int .i64 pe] := hd 7 (of_decide_eq_true (by kernel_rfl))
              refine if_yes (by rw [wanted_of (j := 4) (s := 70) (want := true) (b := true) rfl rfl (by first | exact congrArg some e4 | simp [e4])]; rfl) ?_
              go_simp
              (go_at_call 16; refine (HKS.out _ _ _ (RP8.out.upB hB hB.size)).mono ?_; rintro e w5 ⟨rfl, b5⟩; (refine ka (hK (.bool false) w5 ⟨below_via hB b5, cell_up hc0 b5, cell_up hc1 b5⟩ (fun _ _ h => h) rfl) ?_); (simp [updU, *]))
            refine ⟨fun u w0 c0 hc0 hW hd K hK => ?_, ?_⟩
            · obtain ⟨hB, hc0, hc1⟩ := hW
              have e4 : u 4 = .bool true := hd 4 (of_decide_eq_true (by kernel_rfl))
              have e6 : u 6 = .bool false := hd 6 (of_decide_eq_true (by kernel_rfl))
              have e8 : u 8 = .bool false := hd 8 (of_decide_eq_true (by kernel_rfl))
              refine if_yes (by rw [wanted_of (j := 4) (s := 70) (want := true) (b := true) rfl rfl (by first | exact congrArg some e4 | simp [e4])]; rfl) ?_
              go_simp
              refine ka (hK (.bool true) w0 ⟨hB, hc0, hc1⟩ (fun _ _ h => h) rfl) ?_
              simp [updU, *]
            refine ⟨fun u w0 c0 hc0 hW hd K hK => ?_, ?_⟩
            · obtain ⟨hB, hc0, hc1⟩ := hW
              have e4 : u 4 = .bool true := hd 4 (of_decide_eq_true (by kernel_rfl))
              have e9 : u 9 = .bool true := hd 9 (of_decide_eq_true (by kernel_rfl))
              refine if_yes rfl ?_
              go_simp
              refine ka (hK (.bool true) w0 ⟨hB, hc0, hc1⟩ (fun _ _ h => h) rfl) ?_
              simp [updU, *]
            refine ⟨fun u w0 c0 hc0 hW hd K hK => ?_, ?_⟩
            · obtain ⟨hB, hc0, hc1⟩ := hW
              have e8 : u 8 = .bool false := hd 8 (of_decide_eq_true (by kernel_rfl))
              have e10 : u 10 = .bool true := hd 10 (of_decide_eq_true (by kernel_rfl))
              refine if_yes rfl ?_
              go_simp
              refine ka (hK (.bool true) w0 ⟨hB, hc0, hc1⟩ (fun _ _ h => h) rfl) ?_
              simp [updU, *]
            refine ⟨fun u w0 c0 hc0 hW hd K hK => ?_, ?_⟩
            · obtain ⟨hB, hc0, hc1⟩ := hW
              have e11 : u 11 = .bool true := hd 11 (of_decide_eq_true (by kernel_rfl))
              refine if_yes (by rw [wanted_of (j := 11) (s := 77) (want := true) (b := true) rfl rfl (by first | exact congrArg some e11 | simp [e11])]; rfl) ?_
              go_simp
              refine ka (hK (.int .i64 1) w0 ⟨hB, hc0, hc1⟩ (fun _ _ h => h) rfl) ?_
              simp [updU, *]
            refine ⟨fun u w0 c0 hc0 hW hd K hK => ?_, ?_⟩
            · obtain ⟨hB, hc0, hc1⟩ := hW
              have e11 : u 11 = .bool true := hd 11 (of_decide_eq_true (by kernel_rfl))
              have e12 : u 12 = .int .i64 1 := hd 12 (of_decide_eq_true (by kernel_rfl))
              refine if_yes (by rw [wanted_of (j := 11) (s := 77) (want := true) (b := true) rfl rfl (by first | exact congrArg some e11 | simp [e11])]; rfl) ?_
              go_simp
              refine ka (hK (.bool false) w0 ⟨hB, hc0, hc1⟩ (fun _ _ h => h) rfl) ?_
              simp [updU, *]
            refine ⟨fun u w0 c0 hc0 hW hd K hK => ?_, ?_⟩
            · obtain ⟨hB, hc0, hc1⟩ := hW
              have e11 : u 11 = .bool true := hd 11 (of_decide_eq_true (by kernel_rfl))
              refine if_yes (by rw [wanted_of (j := 11) (s := 77) (want := true) (b := true) rfl rfl (by first | exact congrArg some e11 | simp [e11])]; rfl) ?_
              go_simp
              refine ka (hK (.agg #[.slice PA rs.length pc, .int .i64 pe]) w0 ⟨hB, hc0, hc1⟩ (fun _ _ h => h) rfl) ?_
              simp [updU, *]
            refine ⟨fun u w0 c0 hc0 hW hd K hK => ?_, ?_⟩
            · obtain ⟨hB, hc0, hc1⟩ := hW
              have e11 : u 11 = .bool true := hd 11 (of_decide_eq_true (by kernel_rfl))
              have e14 : u 14 = .agg #[.slice PA rs.length pc, .int .i64 pe] := hd 14 (of_decide_eq_true (by kernel_rfl))
              refine if_yes (by rw [wanted_of (j := 11) (s := 77) (want := true) (b := true) rfl rfl (by first | exact congrArg some e11 | simp [e11])]; rfl) ?_
              go_simp
              (go_at_call 16; refine (HKS.out _ _ _ (RP8.out.upB hB hB.size)).mono ?_; rintro e w5 ⟨rfl, b5⟩; (refine ka (hK (.bool false) w5 ⟨below_via hB b5, cell_up hc0 b5, cell_up hc1 b5⟩ (fun _ _ h => h) rfl) ?_); (simp [updU, *]))
            refine ⟨fun u w0 c0 hc0 hW hd K hK => ?_, ?_⟩
            · obtain ⟨hB, hc0, hc1⟩ := hW
              have e11 : u 11 = .bool true := hd 11 (of_decide_eq_true (by kernel_rfl))
              have e13 : u 13 = .bool false := hd 13 (of_decide_eq_true (by kernel_rfl))
              have e15 : u 15 = .bool false := hd 15 (of_decide_eq_true (by kernel_rfl))
              refine if_yes (by rw [wanted_of (j := 11) (s := 77) (want := true) (b := true) rfl rfl (by first | exact congrArg some e11 | simp [e11])]; rfl) ?_
              go_simp
              refine ka (hK (.bool true) w0 ⟨hB, hc0, hc1⟩ (fun _ _ h => h) rfl) ?_
              simp [updU, *]
            refine ⟨fun u w0 c0 hc0 hW hd K hK => ?_, ?_⟩
            · obtain ⟨hB, hc0, hc1⟩ := hW
              have e11 : u 11 = .bool true := hd 11 (of_decide_eq_true (by kernel_rfl))
              have e16 : u 16 = .bool true := hd 16 (of_decide_eq_true (by kernel_rfl))
              refine if_yes rfl ?_
              go_simp
              refine ka (hK (.bool true) w0 ⟨hB, hc0, hc1⟩ (fun _ _ h => h) rfl) ?_
              simp [updU, *]
            refine ⟨fun u w0 c0 hc0 hW hd K hK => ?_, ?_⟩
            · obtain ⟨hB, hc0, hc1⟩ := hW
              have e15 : u 15 = .bool false := hd 15 (of_decide_eq_true (by kernel_rfl))
              have e17 : u 17 = .bool true := hd 17 (of_decide_eq_true (by kernel_rfl))
              refine if_yes rfl ?_
              go_simp
              refine ka (hK (.bool true) w0 ⟨hB, hc0, hc1⟩ (fun _ _ h => h) rfl) ?_
              simp [updU, *]
            refine ⟨fun u w0 c0 hc0 hW hd K hK => ?_, ?_⟩
            · obtain ⟨hB, hc0, hc1⟩ := hW
              have e18 : u 18 = .bool true := hd 18 (of_decide_eq_true (by kernel_rfl))
              refine if_yes (by rw [wanted_of (j := 18) (s := 84) (want := true) (b := true) rfl rfl (by first | exact congrArg some e18 | simp [e18])]; rfl) ?_
              go_simp
              refine ka (hK (.int .i64 1) w0 ⟨hB, hc0, hc1⟩ (fun _ _ h => h) rfl) ?_
              simp [updU, *]
            refine ⟨fun u w0 c0 hc0 hW hd K hK => ?_, ?_⟩
            · obtain ⟨hB, hc0, hc1⟩ := hW
              have e18 : u 18 = .bool true := hd 18 (of_decide_eq_true (by kernel_rfl))
              have e19 : u 19 = .int .i64 1 := hd 19 (of_decide_eq_true (by kernel_rfl))
              refine if_yes (by rw [wanted_of (j := 18) (s := 84) (want := true) (b := true) rfl rfl (by first | exact congrArg some e18 | simp [e18])]; rfl) ?_
              go_simp
              refine ka (hK (.bool true) w0 ⟨hB, hc0, hc1⟩ (fun _ _ h => h) rfl) ?_
              simp [updU, *]
            refine ⟨fun u w0 c0 hc0 hW hd K hK => ?_, ?_⟩
            · obtain ⟨hB, hc0, hc1⟩ := hW
              have e18 : u 18 = .bool true := hd 18 (of_decide_eq_true (by kernel_rfl))
              have e20 : u 20 = .bool true := hd 20 (of_decide_eq_true (by kernel_rfl))
              refine if_yes (by rw [wanted_of (j := 18) (s := 84) (want := true) (b := true) rfl rfl (by first | exact congrArg some e18 | simp [e18])]; rfl) ?_
              go_simp
              refine ka (hK (.bool true) w0 ⟨hB, hc0, hc1⟩ (fun _ _ h => h) rfl) ?_
              simp [updU, *]
            refine ⟨fun u w0 c0 hc0 hW hd K hK => ?_, ?_⟩
            · obtain ⟨hB, hc0, hc1⟩ := hW
              have e21 : u 21 = .bool true := hd 21 (of_decide_eq_true (by kernel_rfl))
              refine if_no (by rw [wanted_of (j := 21) (s := 87) (want := false) (b := true) rfl rfl (by first | exact congrArg some e21 | simp [e21])]; decide) ?_
              (try simp only [Act.put, Nat.reduceAdd, List.setIfInBounds_toArray, List.set_cons_zero, List.set_cons_succ])
              refine ka (hK (undef) w0 ⟨hB, hc0, hc1⟩ (fun _ _ h => h) rfl) ?_
              simp [updU]
            refine ⟨fun u w0 c0 hc0 hW hd K hK => ?_, ?_⟩
            · obtain ⟨hB, hc0, hc1⟩ := hW
              have e21 : u 21 = .bool true := hd 21 (of_decide_eq_true (by kernel_rfl))
              refine if_no (by rw [wanted_of (j := 21) (s := 87) (want := false) (b := true) rfl rfl (by first | exact congrArg some e21 | simp [e21])]; decide) ?_
              (try simp only [Act.put, Nat.reduceAdd, List.setIfInBounds_toArray, List.set_cons_zero, List.set_cons_succ])
              refine ka (hK (undef) w0 ⟨hB, hc0, hc1⟩ (fun _ _ h => h) rfl) ?_
              simp [updU]
            refine ⟨fun u w0 c0 hc0 hW hd K hK => ?_, ?_⟩
            · obtain ⟨hB, hc0, hc1⟩ := hW
              have e21 : u 21 = .bool true := hd 21 (of_decide_eq_true (by kernel_rfl))
              have e22 : u 22 = undef := hd 22 (of_decide_eq_true (by kernel_rfl))
              have e23 : u 23 = undef := hd 23 (of_decide_eq_true (by kernel_rfl))
              refine if_no (by rw [wanted_of (j := 21) (s := 87) (want := false) (b := true) rfl rfl (by first | exact congrArg some e21 | simp [e21])]; decide) ?_
              (try simp only [Act.put, Nat.reduceAdd, List.setIfInBounds_toArray, List.set_cons_zero, List.set_cons_succ])
              refine ka (hK (undef) w0 ⟨hB, hc0, hc1⟩ (fun _ _ h => h) rfl) ?_
              simp [updU]
            refine ⟨fun u w0 c0 hc0 hW hd K hK => ?_, ?_⟩
            · obtain ⟨hB, hc0, hc1⟩ := hW
              have e18 : u 18 = .bool true := hd 18 (of_decide_eq_true (by kernel_rfl))
              have e21 : u 21 = .bool true := hd 21 (of_decide_eq_true (by kernel_rfl))
              have e24 : u 24 = undef := hd 24 (of_decide_eq_true (by kernel_rfl))
              refine if_yes (by rw [wanted_of (j := 18) (s := 84) (want := true) (b := true) rfl rfl (by first | exact congrArg some e18 | simp [e18])]; rfl) ?_
              go_simp
              refine ka (hK (.bool true) w0 ⟨hB, hc0, hc1⟩ (fun _ _ h => h) rfl) ?_
              simp [updU, *]
            refine ⟨fun u w0 c0 hc0 hW hd K hK => ?_, ?_⟩
            · obtain ⟨hB, hc0, hc1⟩ := hW
              have e18 : u 18 = .bool true := hd 18 (of_decide_eq_true (by kernel_rfl))
              have e25 : u 25 = .bool true := hd 25 (of_decide_eq_true (by kernel_rfl))
              refine if_yes rfl ?_
              go_simp
              refine ka (hK (.bool true) w0 ⟨hB, hc0, hc1⟩ (fun _ _ h => h) rfl) ?_
              simp [updU, *]
            refine ⟨fun u w0 c0 hc0 hW hd K hK => ?_, ?_⟩
            · obtain ⟨hB, hc0, hc1⟩ := hW
              have e0 : u 0 = .string S := hd 0 (of_decide_eq_true (by kernel_rfl))
              have e1 : u 1 = .agg #[.slice PA rs.length pc, .int .i64 pe] := hd 1 (of_decide_eq_true (by kernel_rfl))
              have e2 : u 2 = .string S := hd 2 (of_decide_eq_true (by kernel_rfl))
              have e3 : u 3 = .bool true := hd 3 (of_decide_eq_true (by kernel_rfl))
              have e4 : u 4 = .bool true := hd 4 (of_decide_eq_true (by kernel_rfl))
              have e5 : u 5 = .agg #[.slice PA rs.length pc, .int .i64 pe] := hd 5 (of_decide_eq_true (by kernel_rfl))
              have e6 : u 6 = .bool false := hd 6 (of_decide_eq_true (by kernel_rfl))
              have e7 : u 7 = .agg #[.slice PA rs.length pc, .int .i64 pe] := hd 7 (of_decide_eq_true (by kernel_rfl))
              have e8 : u 8 = .bool false := hd 8 (of_decide_eq_true (by kernel_rfl))
              have e9 : u 9 = .bool true := hd 9 (of_decide_eq_true (by kernel_rfl))
              have e10 : u 10 = .bool true := hd 10 (of_decide_eq_true (by kernel_rfl))
              have e11 : u 11 = .bool true := hd 11 (of_decide_eq_true (by kernel_rfl))
              have e12 : u 12 = .int .i64 1 := hd 12 (of_decide_eq_true (by kernel_rfl))
              have e13 : u 13 = .bool false := hd 13 (of_decide_eq_true (by kernel_rfl))
              have e14 : u 14 = .agg #[.slice PA rs.length pc, .int .i64 pe] := hd 14 (of_decide_eq_true (by kernel_rfl))
              have e15 : u 15 = .bool false := hd 15 (of_decide_eq_true (by kernel_rfl))
              have e16 : u 16 = .bool true := hd 16 (of_decide_eq_true (by kernel_rfl))
              have e17 : u 17 = .bool true := hd 17 (of_decide_eq_true (by kernel_rfl))
              have e18 : u 18 = .bool true := hd 18 (of_decide_eq_true (by kernel_rfl))
              have e19 : u 19 = .int .i64 1 := hd 19 (of_decide_eq_true (by kernel_rfl))
              have e20 : u 20 = .bool true := hd 20 (of_decide_eq_true (by kernel_rfl))
              have e21 : u 21 = .bool true := hd 21 (of_decide_eq_true (by kernel_rfl))
              have e22 : u 22 = undef := hd 22 (of_decide_eq_true (by kernel_rfl))
              have e23 : u 23 = undef := hd 23 (of_decide_eq_true (by kernel_rfl))
              have e24 : u 24 = undef := hd 24 (of_decide_eq_true (by kernel_rfl))
              have e25 : u 25 = .bool true := hd 25 (of_decide_eq_true (by kernel_rfl))
              have e26 : u 26 = .bool true := hd 26 (of_decide_eq_true (by kernel_rfl))
              refine if_yes rfl ?_
              go_simp
              refine ka (hK (.bool true) w0 ⟨hB, hc0, hc1⟩ (fun _ _ h => h) rfl) ?_
              simp [updU, *]
            exact trivial
          · intro u w9 hW hV
            obtain ⟨hB, hc0, hc1⟩ := hW
            have e0 : u 0 = .string S := hV 0 (by decide)
            have e1 : u 1 = .agg #[.slice PA rs.length pc, .int .i64 pe] := hV 1 (by decide)
            have e2 : u 2 = .string S := hV 2 (by decide)
            have e3 : u 3 = .bool true := hV 3 (by decide)
            have e4 : u 4 = .bool true := hV 4 (by decide)
            have e5 : u 5 = .agg #[.slice PA rs.length pc, .int .i64 pe] := hV 5 (by decide)
            have e6 : u 6 = .bool false := hV 6 (by decide)
            have e7 : u 7 = .agg #[.slice PA rs.length pc, .int .i64 pe] := hV 7 (by decide)
            have e8 : u 8 = .bool false := hV 8 (by decide)
            have e9 : u 9 = .bool true := hV 9 (by decide)
            have e10 : u 10 = .bool true := hV 10 (by decide)
            have e11 : u 11 = .bool true := hV 11 (by decide)
            have e12 : u 12 = .int .i64 1 := hV 12 (by decide)
            have e13 : u 13 = .bool false := hV 13 (by decide)
            have e14 : u 14 = .agg #[.slice PA rs.length pc, .int .i64 pe] := hV 14 (by decide)
            have e15 : u 15 = .bool false := hV 15 (by decide)
            have e16 : u 16 = .bool true := hV 16 (by decide)
            have e17 : u 17 = .bool true := hV 17 (by decide)
            have e18 : u 18 = .bool true := hV 18 (by decide)
            have e19 : u 19 = .int .i64 1 := hV 19 (by decide)
            have e20 : u 20 = .bool true := hV 20 (by decide)
            have e21 : u 21 = .bool true := hV 21 (by decide)
            have e22 : u 22 = undef := hV 22 (by decide)
            have e23 : u 23 = undef := hV 23 (by decide)
            have e24 : u 24 = undef := hV 24 (by decide)
            have e25 : u 25 = .bool true := hV 25 (by decide)
            have e26 : u 26 = .bool true := hV 26 (by decide)
            have e27 : u 27 = .bool true := hV 27 (by decide)
            simp only [setAll, putS, List.zipIdx_cons, List.zipIdx_nil, List.foldl_cons, List.foldl_nil, Nat.reduceAdd, List.setIfInBounds_toArray, List.set_cons_zero, List.set_cons_succ]
            simp only [e0, e1, e2, e3, e4, e5, e6, e7, e8, e9, e10, e11, e12, e13, e14, e15, e16, e17, e18, e19, e20, e21, e22, e23, e24, e25, e26, e27]
            clear hV e0 e1 e2 e3 e4 e5 e6 e7 e8 e9 e10 e11 e12 e13 e14 e15 e16 e17 e18 e19 e20 e21 e22 e23 e24 e25 e26 e27 
            go_wp2
            go_returns
            exact ⟨rfl, below_via H8 hB⟩
    · have k2 : decide (1048576 < (m : Int)) = true := by simp; omega
      go_enter Tryd.func4, Tryd.ntmps4
      go_wp2
      go_returns
      exact ⟨rfl, by go_grown⟩
  · have k1 : decide (1048576 < (n : Int)) = true := by simp; omega
    go_enter Tryd.func4, Tryd.ntmps4
    go_wp2
    go_returns
    exact ⟨rfl, by go_grown⟩
end Go.Proofs.YtflhniobbdanjaaDoor
