/- PackWrite: both sides' contracts. Conditions: each contract's own. -/
import Derived.Test.YtdbojdgppgphkaaDoorPack
import Derived.Test.YtdbojdgppgphkaaDoorOrder
namespace Go.Proofs.YtdbojdgppgphkaaDoor
set_option linter.unusedSimpArgs false
open Go.RowKit
set_option linter.unusedVariables false
set_option linter.unnecessarySimpa false
set_option maxRecDepth 20000
theorem whole_parts {n : Int} {r d : ByteArray} (h : wholeB n r d = true) : (1 ≤ n ∧ n ≤ 99) ∧ r.size ≤ 900 ∧ d.size ≤ 2600 := by
  unfold wholeB at h
  simp only [Bool.and_eq_true, decide_eq_true_eq] at h
  exact ⟨h.1.1, h.1.2.1, h.2.1⟩
/-- The runs of the sums of texts of which a pack is made. -/
theorem pack_runs {P : Program} {n : Int} (key r d : ByteArray) (h : wholeB n r d = true) : ∃ I J K X1 X2 X3 X4 X5 H Y1 B Z1 M Z2 R : ByteArray,
    I = itoaB n ∧ J = itoaB (linesN r) ∧ K = itoaB (linesN d) ∧ B = packBody n r d ∧ M = macB key B ∧ R = packB key n r d ∧ B.size ≤ 10000 ∧
    (∀ W, (Op.stringOp .add ⟨#[112, 97, 99, 107, 32]⟩ I).run P W = .ok (.string X1) W) ∧ (∀ W, (Op.stringOp .add X1 ⟨#[32]⟩).run P W = .ok (.string X2) W) ∧ (∀ W, (Op.stringOp .add X2 J).run P W = .ok (.string X3) W) ∧
    (∀ W, (Op.stringOp .add X3 ⟨#[32]⟩).run P W = .ok (.string X4) W) ∧ (∀ W, (Op.stringOp .add X4 K).run P W = .ok (.string X5) W) ∧ (∀ W, (Op.stringOp .add X5 ⟨#[10]⟩).run P W = .ok (.string H) W) ∧
    (∀ W, (Op.stringOp .add H r).run P W = .ok (.string Y1) W) ∧ (∀ W, (Op.stringOp .add Y1 d).run P W = .ok (.string B) W) ∧
    (∀ W, (Op.stringOp .add B ⟨#[116, 97, 103, 32]⟩).run P W = .ok (.string Z1) W) ∧ (∀ W, (Op.stringOp .add Z1 M).run P W = .ok (.string Z2) W) ∧ (∀ W, (Op.stringOp .add Z2 ⟨#[10]⟩).run P W = .ok (.string R) W) := by
  obtain ⟨hn, hr, hd⟩ := whole_parts h
  have a := itoaB_size (x := n) (by omega) (by omega)
  have lr := linesN_le r
  have ld := linesN_le d
  have b := itoaB_size (x := (linesN r : Int)) (by omega) (by omega)
  have c := itoaB_size (x := (linesN d : Int)) (by omega) (by omega)
  have m := macB_size key (packBody n r d)
  have e5 : (⟨#[112, 97, 99, 107, 32]⟩ : ByteArray).size = 5 := rfl
  have e1 : (⟨#[32]⟩ : ByteArray).size = 1 := rfl
  have e2 : (⟨#[10]⟩ : ByteArray).size = 1 := rfl
  have e4 : (⟨#[116, 97, 103, 32]⟩ : ByteArray).size = 4 := rfl
  have hB : (packBody n r d).size ≤ 10000 := by
    unfold packBody packHead
    simp only [ByteArray.size_append]
    omega
  have hR : packB key n r d = ((packBody n r d ++ ⟨#[116, 97, 103, 32]⟩) ++ macB key (packBody n r d)) ++ ⟨#[10]⟩ := by unfold packB; rw [if_pos h]
  refine ⟨_, _, _, _, _, _, _, _, _, _, packBody n r d, _, _, _, packB key n r d, rfl, rfl, rfl, rfl, rfl, rfl, hB, fun W => add_run _ _ (by omega) W, fun W => add_run _ _ (by simp only [ByteArray.size_append]; omega) W, fun W => add_run _ _ (by simp only [ByteArray.size_append]; omega) W, fun W => add_run _ _ (by simp only [ByteArray.size_append]; omega) W, fun W => add_run _ _ (by simp only [ByteArray.size_append]; omega) W, fun W => add_run _ _ (by simp only [ByteArray.size_append]; omega) W, fun W => add_run _ _ (by simp only [ByteArray.size_append]; omega) W, fun W => add_run _ _ (by simp only [ByteArray.size_append]; omega) W, fun W => add_run _ _ (by omega) W, fun W => add_run _ _ (by simp only [ByteArray.size_append]; omega) W, fun W => ?_⟩
  rw [hR]
  exact add_run _ _ (by simp only [ByteArray.size_append]; omega) W
theorem pack_no {key : ByteArray} {n : Int} {r d : ByteArray} (h : wholeB n r d = false) : packB key n r d = ⟨#[]⟩ := by
  unfold packB
  rw [if_neg (by rw [h]; simp)]
theorem whole_last (s : ByteArray) (h : 0 < s.size) : endsB s = ((s[s.size - 1]'(by omega)).toNat == 10) := by
  rw [ends_last, dif_pos h]
theorem whole_zero (s : ByteArray) (h : ¬ 0 < s.size) : endsB s = false := by
  rw [ends_last, dif_neg h]
set_option maxHeartbeats 1600000 in
theorem l7Whole_c (n : Int) (r d : ByteArray) (hr : r.size ≤ 1099511627776) (hd : d.size ≤ 1099511627776) (w : World) : Calls Tryd.prog 55 #[.agg #[.int .i64 n, .string r, .string d]] w (RetB (.bool (wholeB n r d)) w) := by
  have HI := Lib.hid (fun W => l1In_c n 1 99 W)
  obtain ⟨v, hv⟩ : ∃ v, v = wholeB n r d := ⟨_, rfl⟩
  have HV := Lib.hid hv
  rw [← hv]
  clear hv
  by_cases hn : 1 ≤ n ∧ n ≤ 99
  · have en : decide (1 ≤ n ∧ n ≤ 99) = true := by simpa using hn
    rw [en] at HI
    by_cases h1 : 0 < r.size
    · by_cases h2 : 0 < d.size
      · by_cases h3 : r.size ≤ 900
        · by_cases h4 : d.size ≤ 2600
          · have hw : v = (endsB r && endsB d) := by
              rw [HV.out]
              unfold wholeB
              rw [en, show decide (r.size ≤ 900) = true by simpa using h3, show decide (d.size ≤ 2600) = true by simpa using h4]
              rfl
            rw [whole_last r h1, whole_last d h2] at hw
            have x1 : IntKind.i64.wrap ((r.size : Int) - 1) = ((r.size - 1 : Nat) : Int) := by rw [IntKind.wrap_i64]; omega
            have x2 : IntKind.i64.wrap ((d.size : Int) - 1) = ((d.size - 1 : Nat) : Int) := by rw [IntKind.wrap_i64]; omega
            have y1 : r.size - 1 < r.size := by omega
            have y2 : d.size - 1 < d.size := by omega
            clear HV en
            have HW : Hid (v = ((r[r.size - 1]'y1).toNat == 10 && (d[d.size - 1]'y2).toNat == 10)) := Lib.hid hw
            clear hw
            by_cases e1 : (r[r.size - 1]'y1).toNat = 10
            · have f1 : ((((r[r.size - 1]'y1).toNat : Nat) : Int) == 10) = true := by rw [e1]; rfl
              by_cases e2 : (d[d.size - 1]'y2).toNat = 10
              · have f2 : ((((d[d.size - 1]'y2).toNat : Nat) : Int) == 10) = true := by rw [e2]; rfl
                have hv : v = true := by rw [HW.out, e1, e2]; rfl
                clear HW e1 e2
                subst hv
                go_enter Tryd.func55, Tryd.ntmps55
                (go_wp2_with fail); (go_at_call 74; refine (HI.out _).mono ?_; rintro e w1 ⟨rfl, rfl⟩)
                go_wp2
                go_returns
                exact ⟨rfl, by go_grown⟩
              · have f2 : ((((d[d.size - 1]'y2).toNat : Nat) : Int) == 10) = false := by rw [beq_eq_false_iff_ne]; omega
                have hv : v = false := by rw [HW.out, e1, Bool.and_eq_false_iff]; exact .inr (by rw [beq_eq_false_iff_ne]; exact e2)
                clear HW e1 e2
                subst hv
                go_enter Tryd.func55, Tryd.ntmps55
                (go_wp2_with fail); (go_at_call 74; refine (HI.out _).mono ?_; rintro e w1 ⟨rfl, rfl⟩)
                go_wp2
                go_returns
                exact ⟨rfl, by go_grown⟩
            · have f1 : ((((r[r.size - 1]'y1).toNat : Nat) : Int) == 10) = false := by rw [beq_eq_false_iff_ne]; omega
              have hv : v = false := by rw [HW.out, Bool.and_eq_false_iff]; exact .inl (by rw [beq_eq_false_iff_ne]; exact e1)
              clear HW e1
              subst hv
              go_enter Tryd.func55, Tryd.ntmps55
              (go_wp2_with fail); (go_at_call 74; refine (HI.out _).mono ?_; rintro e w1 ⟨rfl, rfl⟩)
              go_wp2
              go_returns
              exact ⟨rfl, by go_grown⟩
          · have hw : v = false := by
              rw [HV.out]
              unfold wholeB
              rw [show decide (d.size ≤ 2600) = false by simpa using h4, Bool.false_and, Bool.and_false]
            clear HV
            subst hw
            go_enter Tryd.func55, Tryd.ntmps55
            (go_wp2_with fail); (go_at_call 74; refine (HI.out _).mono ?_; rintro e w1 ⟨rfl, rfl⟩)
            go_wp2
            go_returns
            exact ⟨rfl, by go_grown⟩
        · have hw : v = false := by
            rw [HV.out]
            unfold wholeB
            rw [show decide (r.size ≤ 900) = false by simpa using h3, Bool.false_and, Bool.and_false, Bool.false_and]
          clear HV
          subst hw
          go_enter Tryd.func55, Tryd.ntmps55
          (go_wp2_with fail); (go_at_call 74; refine (HI.out _).mono ?_; rintro e w1 ⟨rfl, rfl⟩)
          go_wp2
          go_returns
          exact ⟨rfl, by go_grown⟩
      · have hw : v = false := by
          rw [HV.out]
          unfold wholeB
          rw [whole_zero d h2, Bool.and_false, Bool.and_false]
        clear HV
        subst hw
        go_enter Tryd.func55, Tryd.ntmps55
        (go_wp2_with fail); (go_at_call 74; refine (HI.out _).mono ?_; rintro e w1 ⟨rfl, rfl⟩)
        go_wp2
        go_returns
        exact ⟨rfl, by go_grown⟩
    · have hw : v = false := by
        rw [HV.out]
        unfold wholeB
        rw [whole_zero r h1, Bool.and_false, Bool.and_false, Bool.false_and]
      clear HV
      subst hw
      go_enter Tryd.func55, Tryd.ntmps55
      (go_wp2_with fail); (go_at_call 74; refine (HI.out _).mono ?_; rintro e w1 ⟨rfl, rfl⟩)
      go_wp2
      go_returns
      exact ⟨rfl, by go_grown⟩
  · have en : decide (1 ≤ n ∧ n ≤ 99) = false := by simpa using hn
    rw [en] at HI
    have hw : v = false := by
      rw [HV.out]
      unfold wholeB
      rw [en, Bool.false_and, Bool.false_and]
    clear HV
    subst hw
    go_enter Tryd.func55, Tryd.ntmps55
    (go_wp2_with fail); (go_at_call 74; refine (HI.out _).mono ?_; rintro e w1 ⟨rfl, rfl⟩)
    go_wp2
    go_returns
    exact ⟨rfl, by go_grown⟩
set_option maxHeartbeats 1600000 in
theorem l7Body_c (n : Int) (r d : ByteArray) (h : wholeB n r d = true) (w : World) : Calls Tryd.prog 56 #[.agg #[.int .i64 n, .string r, .string d]] w (RetB (.string (packBody n r d)) w) := by
  obtain ⟨hn, hr, hd⟩ := whole_parts h
  have lr := linesN_le r
  have ld := linesN_le d
  obtain ⟨I, J, K, X1, X2, X3, X4, X5, H, Y1, B, Z1, M, Z2, R, eI, eJ, eK, eB, eM, eR, hB, r1, r2, r3, r4, r5, r6, r7, r8, r9, r10, r11⟩ := pack_runs (P := Tryd.prog) ⟨#[]⟩ r d h
  have HI := Lib.hid (decAll_c n (by omega) (by omega))
  have HJ := Lib.hid (decAll_c (linesN r : Int) (by omega) (by omega))
  have HK := Lib.hid (decAll_c (linesN d : Int) (by omega) (by omega))
  have HA := Lib.hid (l7Lines_c r (by omega))
  have HD := Lib.hid (l7Lines_c d (by omega))
  rw [← eI] at HI
  rw [← eJ] at HJ
  rw [← eK] at HK
  rw [← eB]
  clear eI eJ eK eB eM eR h r9 r10 r11
  go_enter Tryd.func56, Tryd.ntmps56
  go_wp2_with fail
  go_region_held3 (fun w' => w'.cell? ⟨w.heap.size, 0, none⟩ = some (.int .i64 n) ∧ w'.cell? ⟨w.heap.size, 1, none⟩ = some (.string r) ∧ w'.cell? ⟨w.heap.size, 2, none⟩ = some (.string d)) (simp [go_sem, *])
    (first
     | (go_at_call 89; refine (((fun _ => HK.out _) s4)).mono ?_; rintro e w5 ⟨rfl, b5⟩; obtain ⟨gc5, gf5⟩ := below_get b5; (try simp only [heap_drew, World.size_alloc, World.size_setCell] at gc5 gf5); have s5 := below_via (w := w4) (by go_grown) b5; have H5 := below_via H4 s5; have hs5 := b5.size; (try simp at hs5); have z5_0 : w.heap.size < w5.heap.size := (by omega); clear b5)
     | (go_at_call 95; refine (((fun _ => HD.out _) s3)).mono ?_; rintro e w4 ⟨rfl, b4⟩; obtain ⟨gc4, gf4⟩ := below_get b4; (try simp only [heap_drew, World.size_alloc, World.size_setCell] at gc4 gf4); have s4 := below_via (w := w3) (by go_grown) b4; have H4 := below_via H3 s4; have hs4 := b4.size; (try simp at hs4); have z4_0 : w.heap.size < w4.heap.size := (by omega); clear b4)
     | (go_at_call 89; refine (((fun _ => HJ.out _) s2)).mono ?_; rintro e w3 ⟨rfl, b3⟩; obtain ⟨gc3, gf3⟩ := below_get b3; (try simp only [heap_drew, World.size_alloc, World.size_setCell] at gc3 gf3); have s3 := below_via (w := w2) (by go_grown) b3; have H3 := below_via H2 s3; have hs3 := b3.size; (try simp at hs3); have z3_0 : w.heap.size < w3.heap.size := (by omega); clear b3)
     | (go_at_call 95; refine (((fun _ => HA.out _) s1)).mono ?_; rintro e w2 ⟨rfl, b2⟩; obtain ⟨gc2, gf2⟩ := below_get b2; (try simp only [heap_drew, World.size_alloc, World.size_setCell] at gc2 gf2); have s2 := below_via (w := w1) (by go_grown) b2; have H2 := below_via H1 s2; have hs2 := b2.size; (try simp at hs2); have z2_0 : w.heap.size < w2.heap.size := (by omega); clear b2)
     | (go_at_call 89; refine (HI.out _).mono ?_; rintro e w1 ⟨rfl, b1⟩; obtain ⟨gc1, gf1⟩ := below_get b1; (try simp only [heap_drew, World.size_alloc, World.size_setCell] at gc1 gf1); have s1 := below_via (w := w) (by go_grown) b1; have H1 := s1; have hs1 := b1.size; (try simp at hs1); have z1_0 : w.heap.size < w1.heap.size := (by omega); clear b1))
  go_wp2
  go_returns
  exact ⟨rfl, by go_grown⟩
set_option maxHeartbeats 800000 in
theorem specPackWrite_c (key : ByteArray) (n : Int) (r d : ByteArray) (hk : key.size ≤ 1099511627776) (hr : r.size ≤ 1099511627776) (hd : d.size ≤ 1099511627776) (w : World) : Calls Tryd.prog 19 #[.string key, .agg #[.int .i64 n, .string r, .string d]] w (RetB (.string (packB key n r d)) w) := by
  have HW := Lib.hid (l7Whole_c n r d hr hd)
  by_cases h : wholeB n r d = true
  · have HB := Lib.hid (l7Body_c n r d h)
    obtain ⟨I, J, K, X1, X2, X3, X4, X5, H, Y1, B, Z1, M, Z2, R, eI, eJ, eK, eB, eM, eR, hB, r1, r2, r3, r4, r5, r6, r7, r8, r9, r10, r11⟩ := pack_runs (P := Tryd.prog) key r d h
    have HM := Lib.hid (specHashMac_c key B hk (by omega))
    have e3 : strOfNums (hexL (digest (padTo (bytesI (keyS key)) 92 64 ++ digest (padTo (bytesI (keyS key)) 54 64 ++ bytesI B)))) = M := by rw [eM]; rfl
    rw [e3] at HM
    rw [← eB] at HB
    rw [← eR]
    rw [h] at HW
    clear eI eJ eK eB eM eR e3 h r1 r2 r3 r4 r5 r6 r7 r8
    go_enter Tryd.func19, Tryd.ntmps19
    (go_wp2_with fail); (go_at_call 55; refine (HW.out _).mono ?_; rintro e w1 ⟨rfl, b1⟩; obtain ⟨gc1, gf1⟩ := below_get b1; (try simp only [heap_drew, World.size_alloc, World.size_setCell] at gc1 gf1); have s1 := below_via (w := w) (by go_grown) b1; have H1 := s1; have hs1 := b1.size; (try simp at hs1); have z1_0 : w.heap.size < w1.heap.size := (by omega); clear b1)
    (go_wp2_with fail); (go_at_call 56; refine (HB.out _).mono ?_; rintro e w2 ⟨rfl, b2⟩; obtain ⟨gc2, gf2⟩ := below_get b2; (try simp only [heap_drew, World.size_alloc, World.size_setCell] at gc2 gf2); have s2 := below_via (w := w1) (by go_grown) b2; have H2 := below_via H1 s2; have hs2 := b2.size; (try simp at hs2); have z2_0 : w.heap.size < w2.heap.size := (by omega); clear b2)
    (go_wp2_with fail); (go_at_call 17; refine (HM.out _).mono ?_; rintro e w3 ⟨rfl, b3⟩; obtain ⟨gc3, gf3⟩ := below_get b3; (try simp only [heap_drew, World.size_alloc, World.size_setCell] at gc3 gf3); have s3 := below_via (w := w2) (by go_grown) b3; have H3 := below_via H2 s3; have hs3 := b3.size; (try simp at hs3); have z3_0 : w.heap.size < w3.heap.size := (by omega); clear b3)
    go_wp2
    go_returns
    exact ⟨rfl, by go_grown⟩
  · have h' : wholeB n r d = false := by simpa using h
    rw [pack_no h']
    rw [h'] at HW
    clear h h'
    go_enter Tryd.func19, Tryd.ntmps19
    (go_wp2_with fail); (go_at_call 55; refine (HW.out _).mono ?_; rintro e w1 ⟨rfl, b1⟩; obtain ⟨gc1, gf1⟩ := below_get b1; (try simp only [heap_drew, World.size_alloc, World.size_setCell] at gc1 gf1); have s1 := below_via (w := w) (by go_grown) b1; have H1 := s1; have hs1 := b1.size; (try simp at hs1); have z1_0 : w.heap.size < w1.heap.size := (by omega); clear b1)
    go_wp2
    go_returns
    exact ⟨rfl, by go_grown⟩
end Go.Proofs.YtdbojdgppgphkaaDoor
