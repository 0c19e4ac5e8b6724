/- FnPolicyFirst: for all drawn bytes the law returns true: the first rule that fits counts. The tables are tied to the program's text. No condition. -/
import Derived.Test.YtcocagdbkpkkaaaDoorFnPol
namespace Go.Proofs.YtcocagdbkpkkaaaDoor
set_option linter.unusedSimpArgs false
open Go.ChangeShapes Go.WideShapes Go.ChangeAt Go.RowKit
set_option linter.unusedVariables false
set_option linter.unnecessarySimpa false
theorem RdR.take {w : World} {B n k : Nat} {A : Option Addr} {rs : List Rl} (h : RdR w B A n rs) (hk : k ≤ n) : RdR w B A k (rs.take k) :=
  ⟨by rw [List.length_take, h.1]; omega, fun hn => by
    obtain ⟨b, off, e, hb, hc⟩ := h.2 (by omega)
    refine ⟨b, off, e, hb, fun j r hj => hc j r ?_⟩
    rw [List.getElem?_take] at hj
    split at hj
    · exact hj
    · cases hj⟩
theorem OP.cap_le {w : World} {lo hi ER ET n c : Nat} {A : Option Addr} {qs : List (Rl × Value)} (h : OP w lo hi ER ET A n c qs) : n ≤ c ∧ (n = 0 → A = none → c = 0) ∧ c ≤ maxLen := by
  rcases h.own.2 with ⟨hv, h0⟩ | ⟨g, cap, cur, hv, _, _, h1, h2, _⟩
  · injection hv with a b d
    subst d h0
    exact ⟨Nat.le_refl _, fun _ _ => rfl, Nat.zero_le _⟩
  · injection hv with a b d
    subst a d
    exact ⟨h1, fun _ e => by (first | cases e | omega), h2⟩
set_option maxHeartbeats 8000000 in
set_option maxRecDepth 100000 in
theorem fnPolicyFirst_law (A : Option Addr) (n c : Nat) (xs : List Int) (w : World) (hr : Rd w w.heap.size 1 A n (u8s xs)) (hx : ∀ x ∈ xs, 0 ≤ x ∧ x ≤ 255) (hc : n ≤ c) (hc2 : c ≤ 9223372036854775807) (hp : PT w w.heap.size) :
    Calls Tryd.prog 10 #[.slice A n c] w (RetB (.bool true) w) := by
  have HR := Lib.hid hr
  have HX := Lib.hid hx
  have HP := Lib.hid hp
  clear hr hx hp
  by_cases h1 : n ≤ 1048576
  · have k1 : decide (1048576 < (n : Int)) = false := by simp; omega
    go_enter Tryd.func10, Tryd.ntmps10
    (go_wp2_with fail); (go_at_call 36; refine (drawPolicyOf_c A n c xs _ (HR.out.upB (by go_grown) (by go_size)) HX.out hc hc2).mono ?_; rintro e w1 ⟨PA, pn, pc, qs, els, num, CA, cn, cc, zs, rfl, o1, hpn, hls, r1, hcn, b1⟩; have RP := Lib.hid o1.rd; have RC := Lib.hid r1.rd; have hcap := o1.cap_le; clear o1 r1 hls; obtain ⟨gc1, gf1⟩ := below_get b1; (try simp only [heap_drew, World.size_alloc, World.size_setCell] at gc1 gf1); have s1 := below_via (w := w) (by go_grown) b1; have H1 := s1; have hs1 := b1.size; (try simp at hs1); clear b1)
    generalize rls qs = rs at *
    have hl1 := RP.out.1
    subst hl1
    have hl2 := RC.out.len1
    rw [ints_len] at hl2
    subst hl2
    obtain ⟨ok, cb, O, eok, ecb, eO, hI, hS, hKI, hKS, hCS⟩ := of_x rs els num zs (by omega) (by omega)
    have HI := Lib.hid hI
    have HS := Lib.hid hS
    have HKI := Lib.hid hKI
    have HKS := Lib.hid hKS
    have HCS := Lib.hid hCS
    have HOK := Lib.hid eok
    have HCB := Lib.hid ecb
    have HO := Lib.hid eO
    have hcap1 := hcap.1
    have HCAP := Lib.hid hcap
    clear hI hS hKI hKS hCS eok ecb eO hcap
    (go_wp2_with fail); (go_at_call 24; refine (HI.out _ _ _ _ _ (RP.out.upB (by go_grown) (by go_size)) (RC.out.upB (by go_grown) (by go_size)) ((HP.out.below (show Below w.heap.size w _ from below_via H1 (by go_grown))).more (by (try simp); omega))).mono ?_; rintro e w2 ⟨rfl, b2⟩; obtain ⟨gc2, gf2⟩ := below_get b2; (try simp only [heap_drew, World.size_alloc, World.size_setCell] at gc2 gf2); have s2 := below_via (w := w1) (by go_grown) b2; have H2 := below_via H1 s2; have hs2 := b2.size; (try simp at hs2); have z2_0 : w1.heap.size < w2.heap.size := (by omega); have z2_1 : w1.heap.size + 1 < w2.heap.size := (by omega); clear b2)
    go_wp2_with fail
    go_region_held3 (fun w' => w'.cell? ⟨w1.heap.size, 0, none⟩ = some (.slice PA rs.length pc) ∧ w'.cell? ⟨w1.heap.size, 1, none⟩ = some (.int .i64 els) ∧ w'.cell? ⟨w1.heap.size + 1, 0, none⟩ = some (.int .i64 num) ∧ w'.cell? ⟨w1.heap.size + 1, 1, none⟩ = some (.slice CA zs.length cc)) (simp [go_sem, *])
      (first
       | (go_at_call 22; refine (HS.out _ _ _ _ _ ((RP.out.up s2).upB (by go_grown) (by go_size)) ((RC.out.up s2).upB (by go_grown) (by go_size))).mono ?_; rintro e w3 ⟨rfl, b3⟩; obtain ⟨gc3, gf3⟩ := below_get b3; (try simp only [heap_drew, World.size_alloc, World.size_setCell] at gc3 gf3); have s3 := below_via (w := w2) (by go_grown) b3; have H3 := below_via H2 s3; have hs3 := b3.size; (try simp at hs3); have z3_0 : w1.heap.size < w3.heap.size := (by omega); have z3_1 : w1.heap.size + 1 < w3.heap.size := (by omega); clear b3)
       | (go_at_call 17; refine (HKI.out _ _ _ (((RP.out.up s2).up s3).upB (by go_grown) (by go_size)) ((HP.out.below (show Below w.heap.size w _ from below_via H3 (by go_grown))).more (by (try simp); omega))).mono ?_; rintro e w4 ⟨rfl, b4⟩; obtain ⟨gc4, gf4⟩ := below_get b4; (try simp only [heap_drew, World.size_alloc, World.size_setCell] at gc4 gf4); have s4 := below_via (w := w3) (by go_grown) b4; have H4 := below_via H3 s4; have hs4 := b4.size; (try simp at hs4); have z4_0 : w1.heap.size < w4.heap.size := (by omega); have z4_1 : w1.heap.size + 1 < w4.heap.size := (by omega); clear b4)
       | (go_at_call 15; refine (HKS.out _ _ _ ((((RP.out.up s2).up s3).up s4).upB (by go_grown) (by go_size))).mono ?_; rintro e w5 ⟨rfl, b5⟩; obtain ⟨gc5, gf5⟩ := below_get b5; (try simp only [heap_drew, World.size_alloc, World.size_setCell] at gc5 gf5); have s5 := below_via (w := w4) (by go_grown) b5; have H5 := below_via H4 s5; have hs5 := b5.size; (try simp at hs5); have z5_0 : w1.heap.size < w5.heap.size := (by omega); have z5_1 : w1.heap.size + 1 < w5.heap.size := (by omega); clear b5))
    cases ok with
    | false =>
      have hO : O = 4 := by rw [HO.out]; exact polOfV_no (by rw [← HOK.out]; rfl)
      clear HO HOK HCB
      subst hO
      (go_wp2_with fail); (go_at_call 15; refine (HKS.out _ _ _ (((((RP.out.up s2).up s3).up s4).up s5).upB (by go_grown) (by go_size))).mono ?_; rintro e w6 ⟨rfl, b6⟩; obtain ⟨gc6, gf6⟩ := below_get b6; (try simp only [heap_drew, World.size_alloc, World.size_setCell] at gc6 gf6); have s6 := below_via (w := w5) (by go_grown) b6; have H6 := below_via H5 s6; have hs6 := b6.size; (try simp at hs6); have z6_0 : w1.heap.size < w6.heap.size := (by omega); have z6_1 : w1.heap.size + 1 < w6.heap.size := (by omega); clear b6)
      go_wp2
      go_returns
      exact ⟨rfl, by go_grown⟩
    | true =>
      cases cb with
      | false =>
        have hO : O = 4 := by rw [HO.out]; exact polOfV_no (by rw [← HCB.out]; exact Bool.and_false _)
        clear HO HOK HCB
        subst hO
        (go_wp2_with fail); (go_at_call 15; refine (HKS.out _ _ _ (((((RP.out.up s2).up s3).up s4).up s5).upB (by go_grown) (by go_size))).mono ?_; rintro e w6 ⟨rfl, b6⟩; obtain ⟨gc6, gf6⟩ := below_get b6; (try simp only [heap_drew, World.size_alloc, World.size_setCell] at gc6 gf6); have s6 := below_via (w := w5) (by go_grown) b6; have H6 := below_via H5 s6; have hs6 := b6.size; (try simp at hs6); have z6_0 : w1.heap.size < w6.heap.size := (by omega); have z6_1 : w1.heap.size + 1 < w6.heap.size := (by omega); clear b6)
        (go_wp2_with fail); (go_at_call 37; refine (HCS.out _ _ _ ((((((RC.out.up s2).up s3).up s4).up s5).up s6).upB (by go_grown) (by go_size))).mono ?_; rintro e w7 ⟨rfl, b7⟩; obtain ⟨gc7, gf7⟩ := below_get b7; (try simp only [heap_drew, World.size_alloc, World.size_setCell] at gc7 gf7); have s7 := below_via (w := w6) (by go_grown) b7; have H7 := below_via H6 s7; have hs7 := b7.size; (try simp at hs7); have z7_0 : w1.heap.size < w7.heap.size := (by omega); have z7_1 : w1.heap.size + 1 < w7.heap.size := (by omega); clear b7)
        go_wp2
        go_returns
        exact ⟨rfl, by go_grown⟩
      | true =>
        have HELD : w5.cell? ⟨w1.heap.size, 0, none⟩ = some (.slice PA rs.length pc) ∧ w5.cell? ⟨w1.heap.size, 1, none⟩ = some (.int .i64 els) ∧ w5.cell? ⟨w1.heap.size + 1, 0, none⟩ = some (.int .i64 num) ∧ w5.cell? ⟨w1.heap.size + 1, 1, none⟩ = some (.slice CA zs.length cc) := by assumption
        have he := polOk_els HOK.out.symm
        have h4 : rs.length ≤ 4 := by have := (polOk_all HOK.out.symm).1; omega
        have LAW : Hid (∀ k, (polOfV ⟨rs.take k, 5 - els⟩ num zs = O ∧ polOfV ⟨rs.take k, els⟩ num zs = O) ∨ (polOfV ⟨rs.take k, 5 - els⟩ num zs = 5 - els ∧ polOfV ⟨rs.take k, els⟩ num zs = els)) := Lib.hid (fun k => by
          have := first_law HOK.out.symm HCB.out.symm h4 k
          rwa [← HO.out] at this)
        have LAW0 : Hid (polOfV ⟨[], els⟩ num zs = els) := Lib.hid (none_law he HCB.out.symm)
        clear HO HOK HCB
        have hee : (5 - els == els) = false := by rw [beq_eq_false_iff_ne]; omega
        have hee' : (5 - els != els) = true := by rw [bne, hee]; rfl
        obtain ⟨he0, he1⟩ := he
        (go_wp2_with fail); (go_at_call 15; refine (HKS.out _ _ _ (((((RP.out.up s2).up s3).up s4).up s5).upB (by go_grown) (by go_size))).mono ?_; rintro e w6 ⟨rfl, b6⟩; obtain ⟨gc6, gf6⟩ := below_get b6; (try simp only [heap_drew, World.size_alloc, World.size_setCell] at gc6 gf6); have s6 := below_via (w := w5) (by go_grown) b6; have H6 := below_via H5 s6; have hs6 := b6.size; (try simp at hs6); have z6_0 : w1.heap.size < w6.heap.size := (by omega); have z6_1 : w1.heap.size + 1 < w6.heap.size := (by omega); clear b6)
        (go_wp2_with fail); (go_at_call 37; refine (HCS.out _ _ _ ((((((RC.out.up s2).up s3).up s4).up s5).up s6).upB (by go_grown) (by go_size))).mono ?_; rintro e w7 ⟨rfl, b7⟩; obtain ⟨gc7, gf7⟩ := below_get b7; (try simp only [heap_drew, World.size_alloc, World.size_setCell] at gc7 gf7); have s7 := below_via (w := w6) (by go_grown) b7; have H7 := below_via H6 s7; have hs7 := b7.size; (try simp at hs7); have z7_0 : w1.heap.size < w7.heap.size := (by omega); have z7_1 : w1.heap.size + 1 < w7.heap.size := (by omega); clear b7)
        have T0 : Hid (w7.cell? ⟨w1.heap.size, 0, none⟩ = some (.slice PA rs.length pc)) := Lib.hid ((gc7 _ _ (by omega)).trans ((gc6 _ _ (by omega)).trans HELD.1))
        have T1 : Hid (w7.cell? ⟨w1.heap.size, 1, none⟩ = some (.int .i64 els)) := Lib.hid ((gc7 _ _ (by omega)).trans ((gc6 _ _ (by omega)).trans HELD.2.1))
        have T2 : Hid (w7.cell? ⟨w1.heap.size + 1, 0, none⟩ = some (.int .i64 num)) := Lib.hid ((gc7 _ _ (by omega)).trans ((gc6 _ _ (by omega)).trans HELD.2.2.1))
        have T3 : Hid (w7.cell? ⟨w1.heap.size + 1, 1, none⟩ = some (.slice CA zs.length cc)) := Lib.hid ((gc7 _ _ (by omega)).trans ((gc6 _ _ (by omega)).trans HELD.2.2.2))
        have R7 : Hid (RdR w7 w7.heap.size PA rs.length rs) := Lib.hid ((((((((RP.out.up s2).up s3).up s4).up s5).up s6).up s7).upB (by go_grown) (by go_size)))
        have C7 : Hid (Rd w7 w7.heap.size 1 CA zs.length (ints zs)) := Lib.hid ((((((((RC.out.up s2).up s3).up s4).up s5).up s6).up s7).upB (by go_grown) (by go_size)))
        have P7 : Hid (PT w7 w7.heap.size) := Lib.hid (((HP.out.below (show Below w.heap.size w _ from below_via H7 (by go_grown))).more (by (try simp); omega)))
        clear gc2 gf2 gc3 gf3 gc4 gf4 gc5 gf5 gc6 gf6 gc7 gf7 HELD
        go_wp2_with fail
        go_loopg [6] (rs.length + 1) (fun gk i wr => ∃ (k : Nat), gk + k = rs.length + 1 ∧ i = .int .i64 k ∧ Hid (Below w7.heap.size w7 wr))
        case atStart => exact ⟨0, rfl, rfl, Below.refl _ _⟩
        case round =>
          obtain ⟨k, hgk, rfl, HW⟩ := hrel
          have hbs := HW.out.size
          have zp : w1.heap.size < wr.heap.size := by omega
          have zc : w1.heap.size + 1 < wr.heap.size := by omega
          have p0 := (HW.out.cell (p := ⟨w1.heap.size, 0, none⟩) (by simp; omega)).trans T0.out
          have p1 := (HW.out.cell (p := ⟨w1.heap.size, 1, none⟩) (by simp; omega)).trans T1.out
          have c0 := (HW.out.cell (p := ⟨w1.heap.size + 1, 0, none⟩) (by simp; omega)).trans T2.out
          have c1 := (HW.out.cell (p := ⟨w1.heap.size + 1, 1, none⟩) (by simp; omega)).trans T3.out
          have RW := Lib.hid (R7.out.up HW.out)
          have CW := Lib.hid (C7.out.up HW.out)
          have PW : Hid (PT wr wr.heap.size) := Lib.hid ((P7.out.below HW.out).more hbs)
          by_cases hk : gk = 0
          · subst hk
            obtain rfl : k = rs.length + 1 := by omega
            have h0 := fun (W : World) h1 h2 h3 => policyOf_c none 0 0 [] els num CA zs.length cc zs W (by omega) (by omega) h1 h2 h3
            rw [LAW0.out] at h0
            have H0 := Lib.hid h0
            clear h0
            go_wp2_with fail
            go_region_held3 (fun w' => w'.cell? ⟨w1.heap.size, 1, none⟩ = some (.int .i64 els) ∧ w'.cell? ⟨w1.heap.size + 1, 0, none⟩ = some (.int .i64 num) ∧ w'.cell? ⟨w1.heap.size + 1, 1, none⟩ = some (.slice CA zs.length cc)) (simp [go_sem, *])
              ((go_at_call 24; refine (H0.out _ RdR.nil_ (CW.out.upB (by go_grown) (by go_size)) ((PW.out.below (by go_grown)).more (by (try simp) <;> omega))).mono ?_; rintro e w8 ⟨rfl, b8⟩; have HW8 := Lib.hid (below_via (w := wr) (by go_grown) b8); obtain ⟨gc8, gf8⟩ := below_get b8; (try simp only [heap_drew, World.size_alloc, World.size_setCell] at gc8 gf8); clear b8))
            go_wp2
            go_returns
            exact ⟨rfl, below_via H7 (below_via HW.out HW8.out)⟩
          · obtain ⟨gk, rfl⟩ : ∃ m, gk = m + 1 := ⟨gk - 1, by omega⟩
            have hkl : k ≤ rs.length := by omega
            have RK := Lib.hid (RW.out.take hkl)
            have hk0 : (0 : Int) ≤ (k : Int) := by omega
            have hkc : (k : Int) ≤ (pc : Int) := by omega
            have hA := fun (W : World) h1 h2 h3 => policyOf_c PA k pc (rs.take k) (5 - els) num CA zs.length cc zs W (by omega) (by omega) h1 h2 h3
            have hB := fun (W : World) h1 h2 h3 => policyOf_c PA k pc (rs.take k) els num CA zs.length cc zs W (by omega) (by omega) h1 h2 h3
            have hlw := LAW.out k
            rcases hlw with ⟨ea, eb⟩ | ⟨ea, eb⟩
            all_goals
              rw [ea] at hA
              rw [eb] at hB
              have HA := Lib.hid hA
              have HB := Lib.hid hB
              clear hA hB ea eb
              go_wp2
              go_region
              go_wp2
              go_region
              (go_wp2_with fail); (go_at_call 24; refine (HA.out _ (RK.out.upB (by go_grown) (by go_size)) (CW.out.upB (by go_grown) (by go_size)) ((PW.out.below (by go_grown)).more (by (try simp) <;> omega))).mono ?_; rintro e w8 ⟨rfl, b8⟩; have HW8 := Lib.hid (below_via (w := wr) (by go_grown) b8); have hs8 := b8.size; (try simp at hs8); obtain ⟨gc8, gf8⟩ := below_get b8; (try simp only [heap_drew, World.size_alloc, World.size_setCell] at gc8 gf8); have R8 := Lib.hid (RK.out.up HW8.out); have C8 := Lib.hid (CW.out.up HW8.out); have P8 : Hid (PT w8 w8.heap.size) := Lib.hid ((PW.out.below HW8.out).more (by omega)); clear b8; have zq1 : w1.heap.size < w8.heap.size := (by omega); have zq2 : w1.heap.size + 1 < w8.heap.size := (by omega); have p08 := (HW8.out.cell (p := ⟨w1.heap.size, 0, none⟩) zp).trans p0; have p18 := (HW8.out.cell (p := ⟨w1.heap.size, 1, none⟩) zp).trans p1; have c08 := (HW8.out.cell (p := ⟨w1.heap.size + 1, 0, none⟩) zc).trans c0; have c18 := (HW8.out.cell (p := ⟨w1.heap.size + 1, 1, none⟩) zc).trans c1)
              (go_wp2_with fail); (go_at_call 24; refine (HB.out _ (R8.out.upB (by go_grown) (by go_size)) (C8.out.upB (by go_grown) (by go_size)) ((P8.out.below (by go_grown)).more (by (try simp) <;> omega))).mono ?_; rintro e w9 ⟨rfl, b9⟩; have HW9 := Lib.hid (below_via HW8.out (below_via (w := w8) (by go_grown) b9)); have hs9 := b9.size; (try simp at hs9); obtain ⟨gc9, gf9⟩ := below_get b9; (try simp only [heap_drew, World.size_alloc, World.size_setCell] at gc9 gf9); clear b9; have p19 := (HW9.out.cell (p := ⟨w1.heap.size, 1, none⟩) zp).trans p1)
              go_wp2
              go_roundg gk
              case measure => omega
              case rel =>
                go_light
                exact ⟨k + 1, by omega, by go_num, Lib.hid (below_via HW.out HW9.out)⟩
  · have k1 : decide (1048576 < (n : Int)) = true := by simp; omega
    go_enter Tryd.func10, Tryd.ntmps10
    go_wp2
    go_returns
    exact ⟨rfl, by go_grown⟩
theorem fnPolicyFirst_w (v0 : Value) (W : World) (h0 : IsBytes W v0) (hK : PT W W.heap.size) : Calls Tryd.prog 10 #[v0] W (RetB (.bool true) W) := by
  obtain ⟨A, n, c, xs, rfl, hr, hn, hcm, hx⟩ := h0
  exact fnPolicyFirst_law A n c xs W hr hx hn (by unfold maxLen at hcm; omega) hK
set_option maxRecDepth 100000 in
theorem fnPolicyFirst_lifted (os : Os) (started : os.Started) (H : Type) (enc : TypeId × Value → H) :
    ReturnsInHanded {} Tryd.checked os 10 .any (fun w args => (Rows.fnPolicyFirstSpec.pre enc Tryd.prog Tryd.f10 [] false w args ∧ laidMetH Tryd.prog Rows.fnPolicyFirstRow.laid w) ∧ sizedMet enc Tryd.prog Tryd.f10 (OpenSpec.ofChange Rows.fnPolicyFirstSpec) false w args)
      (Rows.fnPolicyFirstSpec.post enc Tryd.prog Tryd.f10 false true false false) := by
  refine returnsInHanded_of_change_and (C := Tryd.checked) (X := fun w _ => laidMetH Tryd.prog Rows.fnPolicyFirstRow.laid w) (fun _ _ _ hh h => h.of_heap hh) own started (by kernel_rfl) Tryd.func10
    (ChangeSpec.witness_shaped (enc := enc) (C := Tryd.checked) (os := os) (X := fun w _ => laidMetH Tryd.prog Rows.fnPolicyFirstRow.laid w) false (World.doorLaid Tryd.prog 400 os) #[.slice none 0 0] 8 rfl (World.shaped_of_RefB (by kernel_rfl) (by kernel_rfl)) (by kernel_rfl) (by kernel_rfl) (by kernel_rfl) (laid_met os _)) ?_
  intro W base args ds gs before hval0 hW _ _ hL _
  have hval : ∀ (j : Nat) t v, Tryd.f10.params[j]? = some t → args[j]? = some v → Value.okWide Tryd.prog W .any base t v := hval0
  have hW' := hW
  obtain ⟨p, q, hA0, hV, rfl, hfz, hnd⟩ := hW
  have hA : DataW.TrodAll enc Tryd.prog W 0 (fun _ => true) true Tryd.f10.params.toList args.toList ds p := hA0
  rw [Tryd.params10] at hA hval
  obtain ⟨v0, vs0, d0, ds0, p0, q0, hargs, rfl, rfl, h0, r0⟩ := trodAll_cons hA
  obtain ⟨rfl, rfl, rfl⟩ := trodAll_nil r0
  obtain rfl : args = #[v0] := by cases args; simp_all
  obtain ⟨rfl, rfl⟩ := trodVars_none hV
  have k0 := h0
  have lt0 : ∀ x ∈ p0, x.block < W.heap.size := by obtain ⟨m, hm⟩ := k0; exact DataW.trod_lt m _ _ _ hm
  have o0 := open_Bytes (hval 0 51 v0 rfl rfl) h0
  clear hA0 hval0
  refine (fnPolicyFirst_w v0 W o0 (pt_of_laid hL)).mono fun e W' ⟨he, bel⟩ => ?_
  subst he
  exact ⟨_, rfl, _, _, _, [], _, [], hW', trodAll_mk1 (shut_bool Tryd.underlying4 _), (trodAll_cons_mk (Below.trod laidOut (by kernel_rfl) (of_decide_eq_true (by kernel_rfl)) k0 bel lt0) trodAll_mk0), rfl, bel.frame _, fun h => by cases h⟩

theorem fnPolicyFirst_holds : Rows.FnPolicyFirstSaid :=
  OpenClaim.holds_of_wide 10 Tryd.f10 rfl rfl rfl rfl rfl rfl rfl ⟨rfl, rfl, rfl, rfl, rfl⟩ rfl rfl rfl rfl rfl (by kernel_rfl) Tryd.func10 (by kernel_rfl)
    (of_decide_eq_true (by kernel_rfl)) (by unfold Func.isWrapper; rw [if_neg (of_decide_eq_false (by kernel_rfl))]; exact ⟨rfl, rfl⟩)
    (fun os started H enc _ => fnPolicyFirst_lifted os started H enc)
theorem fnPolicyFirst_card : Rows.FnPolicyFirstCardSaid :=
  Claim7.holds_tied_plain_at .later [] [.data, .data, .data] true (true, "1bec60d0faf7977a9d47a45710736ecb076b1668f732cd746a3417471cc71ec6") false
    fnPolicyFirst_holds (fun _ h => by cases h) (by kernel_rfl) (fun _ h => by cases h) fnPolicyFirst_row_tie rfl ⟨rfl, rfl⟩ (by kernel_rfl) rfl
    (fun f fn hf hfn => by
      obtain rfl : f = 10 := Option.some.inj ((show Tryd.prog.funcNamed "loop.example/gatelodge/laws.FnPolicyFirst" = some 10 by kernel_rfl).symm.trans hf) |>.symm
      obtain rfl : fn = Tryd.f10 := (Option.some.inj (Tryd.func10.symm.trans hfn)).symm
      exact ⟨by kernel_rfl, fun j t ht => by
        rw [Tryd.params10] at ht
        have hm : t ∈ [51] := by simpa using Array.mem_of_getElem? ht
        have hall : ([51].all fun u => !Tryd.prog.wantsStandIn u) = true := by kernel_rfl
        exact (show Tryd.prog.wantsStandIn t = false by simpa using List.all_eq_true.1 hall t hm)⟩)
    (by kernel_rfl)
#print axioms fnPolicyFirst_card
end Go.Proofs.YtcocagdbkpkkaaaDoor
