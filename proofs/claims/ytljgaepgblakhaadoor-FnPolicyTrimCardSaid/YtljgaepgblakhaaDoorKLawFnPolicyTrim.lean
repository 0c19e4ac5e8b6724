/- FnPolicyTrim: for all drawn bytes the law returns true: rules that change nothing can go. The tables are tied to the program's text. No condition. -/
import Derived.Test.YtljgaepgblakhaaDoorJ19e5ab8fe9
import Derived.Test.YtljgaepgblakhaaDoorJ2e0f53de3c
import Derived.Test.YtljgaepgblakhaaDoorJ351a308295
namespace Go.Proofs.YtljgaepgblakhaaDoor
set_option linter.unusedSimpArgs false
open Go.ChangeShapes Go.WideShapes Go.ChangeAt Go.RowKit
set_option linter.unusedVariables false
set_option linter.unnecessarySimpa false
theorem few_trimY (p : Pol) : Few (trimP p).rs := by
  cases h : polOk p with
  | true => exact few_ok (trimP_ok h)
  | false =>
    unfold trimP
    rw [h]
    exact few_nil
theorem trimP_no {p : Pol} (h : polOk p = false) : trimP p = ⟨[], 0⟩ := by
  unfold trimP
  rw [h]
  rfl
/-- The call returns such a policy in memory of its own. -/
def RetPT (ER ET : Nat) (Rs : List Rl) (Re : Int) (w : World) (e : Ending) (w' : World) : Prop :=
  ∃ A c qs, e = .returned (.agg #[.slice A Rs.length c, .int .i64 Re]) ∧ rls qs = Rs ∧ OP w' w.heap.size w'.heap.size ER ET A Rs.length c qs ∧ Apart qs ∧ Below w.heap.size w w'
theorem trim_y (rs : List Rl) (e : Int) (hn : rs.length ≤ 9223372036854775807) : ∃ (Rs : List Rl) (Re : Int), Few Rs ∧ (polOk ⟨rs, e⟩ = false → Rs = [] ∧ Re = 0) ∧
    (polOk ⟨rs, e⟩ = true → polOk ⟨Rs, Re⟩ = true ∧ Rs.length ≤ rs.length ∧ (∀ num zs, polOfV ⟨Rs, Re⟩ num zs = polOfV ⟨rs, e⟩ num zs) ∧
      (∀ A c W, RdR W W.heap.size A Rs.length Rs → PT W W.heap.size → Calls Tryd.prog 37 #[.agg #[.slice A Rs.length c, .int .i64 Re]] W (RetPT 35 83 Rs Re W))) ∧
    (∀ A c W, RdR W W.heap.size A rs.length rs → Calls Tryd.prog 38 #[.agg #[.slice A rs.length c, .int .i64 e]] W (RetPT 35 83 Rs Re W)) ∧
    (∀ A c W, RdR W W.heap.size A rs.length rs → PT W W.heap.size → Calls Tryd.prog 37 #[.agg #[.slice A rs.length c, .int .i64 e]] W (RetPT 35 83 Rs Re W)) := by
  refine ⟨(trimP ⟨rs, e⟩).rs, (trimP ⟨rs, e⟩).els, few_trimY _, fun h => by rw [trimP_no h]; exact ⟨rfl, rfl⟩, fun h => ⟨trimP_ok h, trim_len h, fun num zs => trim_law h num zs, fun A c W h1 h3 => ?_⟩,
    fun A c W h1 => specPolicyTrim_c A _ c rs e W hn h1, fun A c W h1 h3 => policyTrim_c A _ c rs e W hn h1 h3⟩
  have hl := (polOk_all (trimP_ok h)).1
  have := policyTrim_c A (trimP ⟨rs, e⟩).rs.length c (trimP ⟨rs, e⟩).rs (trimP ⟨rs, e⟩).els W (Nat.le_trans hl (by decide)) h1 h3
  rw [show (⟨(trimP ⟨rs, e⟩).rs, (trimP ⟨rs, e⟩).els⟩ : Pol) = trimP ⟨rs, e⟩ from rfl, trimP_twice h] at this
  exact this
set_option maxHeartbeats 8000000 in
set_option maxRecDepth 100000 in
theorem fnPolicyTrim_law (A : Option Addr) (n c : Nat) (xs : List Int) (B : Option Addr) (m d : Nat) (ys : List Int) (w : World) (hr : Rd w w.heap.size 1 A n (u8s xs)) (hx : ∀ x ∈ xs, 0 ≤ x ∧ x ≤ 255) (hc : n ≤ c) (hc2 : c ≤ 9223372036854775807)
    (hq : Rd w w.heap.size 1 B m (u8s ys)) (hy : ∀ x ∈ ys, 0 ≤ x ∧ x ≤ 255) (hd : m ≤ d) (hd2 : d ≤ 9223372036854775807) (hp : PT w w.heap.size) :
    Calls Tryd.prog 8 #[.slice A n c, .slice B m d] w (RetB (.bool true) w) := by
  have HR := Lib.hid hr
  have HX := Lib.hid hx
  have HQ := Lib.hid hq
  have HY := Lib.hid hy
  have HP := Lib.hid hp
  clear hr hx hq hy hp
  by_cases h1 : n ≤ 1048576
  · have k1 : decide (1048576 < (n : Int)) = false := by simp; omega
    by_cases h2 : m ≤ 1048576
    · have k2 : decide (1048576 < (m : Int)) = false := by simp; omega
      go_enter Tryd.func8, Tryd.ntmps8
      (go_wp2_with fail); (go_at_call 36; refine (drawPolicyTrim_c A n c xs _ (HR.out.upB (by go_grown) (by go_size)) HX.out hc hc2).mono ?_; rintro e w1 ⟨PA, pn, pc, qs, pe, rfl, o1, hpn, hl1, b1⟩; have RP := Lib.hid o1.rd; have HTS : Hid (∀ r ∈ rls qs, r.ts.length ≤ 10) := Lib.hid (fun r h => by obtain ⟨q, hq, rfl⟩ := List.mem_map.1 h; have := hl1 q hq; omega); clear o1 hl1; obtain ⟨gc1, gf1⟩ := below_get b1; (try simp only [heap_drew, World.size_alloc, World.size_setCell] at gc1 gf1); have s1 := below_via (w := w) (by go_grown) b1; have H1 := s1; have hs1 := b1.size; (try simp at hs1); clear b1)
      generalize rls qs = rs at *
      have hl1 := RP.out.1
      subst hl1
      obtain ⟨Rs, Re, hfew, hno, hyes, hTS, hTI⟩ := trim_y rs pe (by omega)
      obtain ⟨ok, eok, hKI, hKS⟩ := ok_x rs pe (by omega)
      have hfl := hfew.1
      obtain ⟨okx, eokx, hXI, _⟩ := ok_x Rs Re (by omega)
      rw [← eok] at hno hyes
      have HTS2 := Lib.hid hTS
      have HTI := Lib.hid hTI
      have HKI := Lib.hid hKI
      have HKS := Lib.hid hKS
      have HXI := Lib.hid hXI
      have HNO := Lib.hid hno
      have HYES := Lib.hid hyes
      have EX := Lib.hid eokx
      have EP := Lib.hid eok
      clear hTS hTI hKI hKS hXI hno hyes eok eokx hfew
      (go_wp2_with fail); (go_at_call 37; refine (HTI.out _ _ _ (RP.out.upB (by go_grown) (by go_size)) ((HP.out.below (show Below w.heap.size w _ from below_via H1 (by go_grown))).more (by (try simp); omega))).mono ?_; rintro e w2 ⟨A2, c2, qs2, rfl, e2, o2, p2, b2⟩; have R2 := Lib.hid (o2.rd); rw [e2] at R2; clear o2 p2 e2; obtain ⟨gc2, gf2⟩ := below_get b2; (try simp only [heap_drew, World.size_alloc, World.size_setCell] at gc2 gf2); have s2 := below_via (w := w1) (by go_grown) b2; have H2 := below_via H1 s2; have hs2 := b2.size; (try simp at hs2); have z2_0 : w1.heap.size < w2.heap.size := (by omega); clear b2)
      go_wp2_with fail
      go_region_held3 (fun w' => w'.cell? ⟨w1.heap.size, 0, none⟩ = some (.slice PA rs.length pc) ∧ w'.cell? ⟨w1.heap.size, 1, none⟩ = some (.int .i64 pe) ∧ w'.cell? ⟨w2.heap.size, 0, none⟩ = some (.slice A2 Rs.length c2) ∧ w'.cell? ⟨w2.heap.size, 1, none⟩ = some (.int .i64 Re)) (simp [go_sem, *])
        (first
         | (go_at_call 38; refine (HTS2.out _ _ _ ((RP.out.up s2).upB (by go_grown) (by go_size))).mono ?_; rintro e w3 ⟨A3, c3, qs3, rfl, e3, o3, p3, b3⟩; have R3 := Lib.hid (o3.rd); rw [e3] at R3; clear o3 p3 e3; obtain ⟨gc3, gf3⟩ := below_get b3; (try simp only [heap_drew, World.size_alloc, World.size_setCell] at gc3 gf3); have s3 := below_via (w := w2) (by go_grown) b3; have H3 := below_via H2 s3; have hs3 := b3.size; (try simp at hs3); have z3_0 : w1.heap.size < w3.heap.size := (by omega); have z3_1 : w2.heap.size < w3.heap.size := (by omega); clear b3)
         | (go_at_call 22; refine (wgPolicy_c A2 A3 c2 c3 Rs Re _ ((R2.out.up s3).upB (by go_grown) (by go_size)) (R3.out.upB (by go_grown) (by go_size)) (by omega)).mono ?_; rintro e w4 ⟨rfl, b4⟩; obtain ⟨gc4, gf4⟩ := below_get b4; (try simp only [heap_drew, World.size_alloc, World.size_setCell] at gc4 gf4); have s4 := below_via (w := w3) (by go_grown) b4; have H4 := below_via H3 s4; have hs4 := b4.size; (try simp at hs4); have z4_0 : w1.heap.size < w4.heap.size := (by omega); have z4_1 : w2.heap.size < w4.heap.size := (by omega); clear b4)
         | (go_at_call 17; refine (HKI.out _ _ _ ((((RP.out.up s2).up s3).up s4).upB (by go_grown) (by go_size)) ((HP.out.below (show Below w.heap.size w _ from below_via H4 (by go_grown))).more (by (try simp); omega))).mono ?_; rintro e w5 ⟨rfl, b5⟩; obtain ⟨gc5, gf5⟩ := below_get b5; (try simp only [heap_drew, World.size_alloc, World.size_setCell] at gc5 gf5); have s5 := below_via (w := w4) (by go_grown) b5; have H5 := below_via H4 s5; have hs5 := b5.size; (try simp at hs5); have z5_0 : w1.heap.size < w5.heap.size := (by omega); have z5_1 : w2.heap.size < w5.heap.size := (by omega); clear b5)
         | (go_at_call 18; refine (HKS.out _ _ _ (((((RP.out.up s2).up s3).up s4).up s5).upB (by go_grown) (by go_size))).mono ?_; rintro e w6 ⟨rfl, b6⟩; obtain ⟨gc6, gf6⟩ := below_get b6; (try simp only [heap_drew, World.size_alloc, World.size_setCell] at gc6 gf6); have s6 := below_via (w := w5) (by go_grown) b6; have H6 := below_via H5 s6; have hs6 := b6.size; (try simp at hs6); have z6_0 : w1.heap.size < w6.heap.size := (by omega); have z6_1 : w2.heap.size < w6.heap.size := (by omega); clear b6))
      cases ok with
      | false =>
        obtain ⟨rfl, rfl⟩ := HNO.out rfl
        clear HNO HYES EX EP
        (go_wp2_with fail); (go_at_call 18; refine (HKS.out _ _ _ ((((((RP.out.up s2).up s3).up s4).up s5).up s6).upB (by go_grown) (by go_size))).mono ?_; rintro e w7 ⟨rfl, b7⟩; obtain ⟨gc7, gf7⟩ := below_get b7; (try simp only [heap_drew, World.size_alloc, World.size_setCell] at gc7 gf7); have s7 := below_via (w := w6) (by go_grown) b7; have H7 := below_via H6 s7; have hs7 := b7.size; (try simp at hs7); have z7_0 : w1.heap.size < w7.heap.size := (by omega); have z7_1 : w2.heap.size < w7.heap.size := (by omega); clear b7)
        go_wp2
        go_returns
        exact ⟨rfl, by go_grown⟩
      | true =>
        obtain ⟨hxk, hlen, hlaw, htw⟩ := HYES.out rfl
        have HLAW := Lib.hid hlaw
        have HTW := Lib.hid htw
        have hokx : okx = true := EX.out.trans hxk
        subst hokx
        have h8 := (polOk_all EP.out.symm).1
        clear HNO HYES EX EP hxk hlaw htw
        (go_wp2_with fail); (go_at_call 18; refine (HKS.out _ _ _ ((((((RP.out.up s2).up s3).up s4).up s5).up s6).upB (by go_grown) (by go_size))).mono ?_; rintro e w7 ⟨rfl, b7⟩; obtain ⟨gc7, gf7⟩ := below_get b7; (try simp only [heap_drew, World.size_alloc, World.size_setCell] at gc7 gf7); have s7 := below_via (w := w6) (by go_grown) b7; have H7 := below_via H6 s7; have hs7 := b7.size; (try simp at hs7); have z7_0 : w1.heap.size < w7.heap.size := (by omega); have z7_1 : w2.heap.size < w7.heap.size := (by omega); clear b7)
        (go_wp2_with fail); (go_at_call 23; refine (drawnNear_c B m d ys PA rs.length pc rs pe _ ((HQ.out.below (show Below w.heap.size w _ from below_via H7 (by go_grown))).more (by (try simp); omega)) HY.out hd hd2 (((((((RP.out.up s2).up s3).up s4).up s5).up s6).up s7).upB (by go_grown) (by go_size)) (by omega) HTS.out).mono ?_; rintro e w8 ⟨num, CA, cc, zs, rfl, rc, hcb, b8⟩; have RC := Lib.hid rc; clear rc hcb; obtain ⟨gc8, gf8⟩ := below_get b8; (try simp only [heap_drew, World.size_alloc, World.size_setCell] at gc8 gf8); have s8 := below_via (w := w7) (by go_grown) b8; have H8 := below_via H7 s8; have hs8 := b8.size; (try simp at hs8); have z8_0 : w1.heap.size < w8.heap.size := (by omega); have z8_1 : w2.heap.size < w8.heap.size := (by omega); clear b8)
        have hz4 : zs.length = 4 := by have := RC.out.len1; rw [ints_len] at this; exact this
        obtain ⟨ok1, cb1, O1, _, _, eO1, hI1, _, _, _, _⟩ := of_x rs pe num zs (by omega) (by omega)
        obtain ⟨ok3, cb3, O3, _, _, eO3, hI3, _, _, _, _⟩ := of_x Rs Re num zs (by omega) (by omega)
        have hO : O3 = O1 := by rw [eO3, eO1]; exact HLAW.out num zs
        have HI1 := Lib.hid hI1
        have HI3 := Lib.hid hI3
        rw [hz4] at HI1 HI3
        clear hI1 hI3 eO1 eO3 hz4 HLAW HTS
        subst hO
        go_wp2_with fail
        go_region_held3 (fun w' => w'.cell? ⟨w1.heap.size, 0, none⟩ = some (.slice PA rs.length pc) ∧ w'.cell? ⟨w1.heap.size, 1, none⟩ = some (.int .i64 pe) ∧ w'.cell? ⟨w2.heap.size, 0, none⟩ = some (.slice A2 Rs.length c2) ∧ w'.cell? ⟨w2.heap.size, 1, none⟩ = some (.int .i64 Re) ∧ w'.cell? ⟨w8.heap.size, 0, none⟩ = some (.int .i64 num) ∧ w'.cell? ⟨w8.heap.size, 1, none⟩ = some (.slice CA 4 cc)) (simp [go_sem, *])
          (first
           | (go_at_call 15; refine (HI1.out _ _ _ _ _ (((((((((RP.out.up s2).up s3).up s4).up s5).up s6).up s7).up s8).up s9).upB (by go_grown) (by go_size)) ((RC.out.up s9).upB (by go_grown) (by go_size)) ((HP.out.below (show Below w.heap.size w _ from below_via H9 (by go_grown))).more (by (try simp); omega))).mono ?_; rintro e w10 ⟨rfl, b10⟩; obtain ⟨gc10, gf10⟩ := below_get b10; (try simp only [heap_drew, World.size_alloc, World.size_setCell] at gc10 gf10); have s10 := below_via (w := w9) (by go_grown) b10; have H10 := below_via H9 s10; have hs10 := b10.size; (try simp at hs10); have z10_0 : w1.heap.size < w10.heap.size := (by omega); have z10_1 : w2.heap.size < w10.heap.size := (by omega); have z10_2 : w8.heap.size < w10.heap.size := (by omega); clear b10)
           | (go_at_call 15; refine (HI3.out _ _ _ _ _ (((((((R2.out.up s3).up s4).up s5).up s6).up s7).up s8).upB (by go_grown) (by go_size)) (RC.out.upB (by go_grown) (by go_size)) ((HP.out.below (show Below w.heap.size w _ from below_via H8 (by go_grown))).more (by (try simp); omega))).mono ?_; rintro e w9 ⟨rfl, b9⟩; obtain ⟨gc9, gf9⟩ := below_get b9; (try simp only [heap_drew, World.size_alloc, World.size_setCell] at gc9 gf9); have s9 := below_via (w := w8) (by go_grown) b9; have H9 := below_via H8 s9; have hs9 := b9.size; (try simp at hs9); have z9_0 : w1.heap.size < w9.heap.size := (by omega); have z9_1 : w2.heap.size < w9.heap.size := (by omega); have z9_2 : w8.heap.size < w9.heap.size := (by omega); clear b9)
           | (go_at_call 17; refine (HXI.out _ _ _ (((((((((R2.out.up s3).up s4).up s5).up s6).up s7).up s8).up s9).up s10).upB (by go_grown) (by go_size)) ((HP.out.below (show Below w.heap.size w _ from below_via H10 (by go_grown))).more (by (try simp); omega))).mono ?_; rintro e w11 ⟨rfl, b11⟩; obtain ⟨gc11, gf11⟩ := below_get b11; (try simp only [heap_drew, World.size_alloc, World.size_setCell] at gc11 gf11); have s11 := below_via (w := w10) (by go_grown) b11; have H11 := below_via H10 s11; have hs11 := b11.size; (try simp at hs11); have z11_0 : w1.heap.size < w11.heap.size := (by omega); have z11_1 : w2.heap.size < w11.heap.size := (by omega); have z11_2 : w8.heap.size < w11.heap.size := (by omega); clear b11)
           | (go_at_call 37; refine (HTW.out _ _ _ ((((((((((R2.out.up s3).up s4).up s5).up s6).up s7).up s8).up s9).up s10).up s11).upB (by go_grown) (by go_size)) ((HP.out.below (show Below w.heap.size w _ from below_via H11 (by go_grown))).more (by (try simp); omega))).mono ?_; rintro e w12 ⟨A12, c12, qs12, rfl, e12, o12, p12, b12⟩; have R12 := Lib.hid (o12.rd); rw [e12] at R12; clear o12 p12 e12; obtain ⟨gc12, gf12⟩ := below_get b12; (try simp only [heap_drew, World.size_alloc, World.size_setCell] at gc12 gf12); have s12 := below_via (w := w11) (by go_grown) b12; have H12 := below_via H11 s12; have hs12 := b12.size; (try simp at hs12); have z12_0 : w1.heap.size < w12.heap.size := (by omega); have z12_1 : w2.heap.size < w12.heap.size := (by omega); have z12_2 : w8.heap.size < w12.heap.size := (by omega); clear b12)
           | (go_at_call 22; refine (wgPolicy_c A12 A2 c12 c2 Rs Re _ (R12.out.upB (by go_grown) (by go_size)) (((((((((((R2.out.up s3).up s4).up s5).up s6).up s7).up s8).up s9).up s10).up s11).up s12).upB (by go_grown) (by go_size)) (by omega)).mono ?_; rintro e w13 ⟨rfl, b13⟩; obtain ⟨gc13, gf13⟩ := below_get b13; (try simp only [heap_drew, World.size_alloc, World.size_setCell] at gc13 gf13); have s13 := below_via (w := w12) (by go_grown) b13; have H13 := below_via H12 s13; have hs13 := b13.size; (try simp at hs13); have z13_0 : w1.heap.size < w13.heap.size := (by omega); have z13_1 : w2.heap.size < w13.heap.size := (by omega); have z13_2 : w8.heap.size < w13.heap.size := (by omega); clear b13))
        go_wp2
        go_returns
        exact ⟨rfl, by go_grown⟩
    · have k2 : decide (1048576 < (m : Int)) = true := by simp; omega
      go_enter Tryd.func8, Tryd.ntmps8
      go_wp2
      go_returns
      exact ⟨rfl, by go_grown⟩
  · have k1 : decide (1048576 < (n : Int)) = true := by simp; omega
    go_enter Tryd.func8, Tryd.ntmps8
    go_wp2
    go_returns
    exact ⟨rfl, by go_grown⟩
theorem fnPolicyTrim_w (v0 v1 : Value) (W : World) (h0 : IsBytes W v0) (h1 : IsBytes W v1) (hK : PT W W.heap.size) : Calls Tryd.prog 8 #[v0, v1] W (RetB (.bool true) W) := by
  obtain ⟨A, n, c, xs, rfl, hr, hn, hcm, hx⟩ := h0
  obtain ⟨B, m, d, ys, rfl, hq, hm, hdm, hy⟩ := h1
  exact fnPolicyTrim_law A n c xs B m d ys W hr hx hn (by unfold maxLen at hcm; omega) hq hy hm (by unfold maxLen at hdm; omega) hK
set_option maxRecDepth 100000 in
theorem fnPolicyTrim_lifted (os : Os) (started : os.Started) (H : Type) (enc : TypeId × Value → H) :
    ReturnsInHanded {} Tryd.checked os 8 .any (fun w args => (Rows.fnPolicyTrimSpec.pre enc Tryd.prog Tryd.f8 [] false w args ∧ laidMetH Tryd.prog Rows.fnPolicyTrimRow.laid w) ∧ sizedMet enc Tryd.prog Tryd.f8 (OpenSpec.ofChange Rows.fnPolicyTrimSpec) false w args)
      (Rows.fnPolicyTrimSpec.post enc Tryd.prog Tryd.f8 false true false false) := by
  refine returnsInHanded_of_change_and (C := Tryd.checked) (X := fun w _ => laidMetH Tryd.prog Rows.fnPolicyTrimRow.laid w) (fun _ _ _ hh h => h.of_heap hh) own started (by kernel_rfl) Tryd.func8
    (ChangeSpec.witness_shaped (enc := enc) (C := Tryd.checked) (os := os) (X := fun w _ => laidMetH Tryd.prog Rows.fnPolicyTrimRow.laid w) false (World.doorLaid Tryd.prog 400 os) #[.slice none 0 0, .slice none 0 0] 8 rfl (World.shaped_of_RefB (by kernel_rfl) (by kernel_rfl)) (by kernel_rfl) (by kernel_rfl) (by kernel_rfl) (laid_met os _)) ?_
  intro W base args ds gs before hval0 hW _ _ hL _
  have hval : ∀ (j : Nat) t v, Tryd.f8.params[j]? = some t → args[j]? = some v → Value.okWide Tryd.prog W .any base t v := hval0
  have hW' := hW
  obtain ⟨p, q, hA0, hV, rfl, hfz, hnd⟩ := hW
  have hA : DataW.TrodAll enc Tryd.prog W 0 (fun _ => true) true Tryd.f8.params.toList args.toList ds p := hA0
  rw [Tryd.params8] at hA hval
  obtain ⟨v0, vs0, d0, ds0, p0, q0, hargs, rfl, rfl, h0, r0⟩ := trodAll_cons hA
  obtain ⟨v1, vs1, d1, ds1, p1, q1, rfl, rfl, rfl, h1, r1⟩ := trodAll_cons r0
  obtain ⟨rfl, rfl, rfl⟩ := trodAll_nil r1
  obtain rfl : args = #[v0, v1] := by cases args; simp_all
  obtain ⟨rfl, rfl⟩ := trodVars_none hV
  have k0 := h0
  have lt0 : ∀ x ∈ p0, x.block < W.heap.size := by obtain ⟨m, hm⟩ := k0; exact DataW.trod_lt m _ _ _ hm
  have o0 := open_Bytes (hval 0 22 v0 rfl rfl) h0
  have k1 := h1
  have lt1 : ∀ x ∈ p1, x.block < W.heap.size := by obtain ⟨m, hm⟩ := k1; exact DataW.trod_lt m _ _ _ hm
  have o1 := open_Bytes (hval 1 22 v1 rfl rfl) h1
  clear hA0 hval0
  refine (fnPolicyTrim_w v0 v1 W o0 o1 (pt_of_laid hL)).mono fun e W' ⟨he, bel⟩ => ?_
  subst he
  exact ⟨_, rfl, _, _, _, [], _, [], hW', trodAll_mk1 (shut_bool Tryd.underlying4 _), (trodAll_cons_mk (Below.trod laidOut (by kernel_rfl) (of_decide_eq_true (by kernel_rfl)) k0 bel lt0) (trodAll_cons_mk (Below.trod laidOut (by kernel_rfl) (of_decide_eq_true (by kernel_rfl)) k1 bel lt1) trodAll_mk0)), rfl, bel.frame _, fun h => by cases h⟩

theorem fnPolicyTrim_holds : Rows.FnPolicyTrimSaid :=
  OpenClaim.holds_of_wide 8 Tryd.f8 rfl rfl rfl rfl rfl rfl rfl ⟨rfl, rfl, rfl, rfl, rfl⟩ rfl rfl rfl rfl rfl (by kernel_rfl) Tryd.func8 (by kernel_rfl)
    (of_decide_eq_true (by kernel_rfl)) (by unfold Func.isWrapper; rw [if_neg (of_decide_eq_false (by kernel_rfl))]; exact ⟨rfl, rfl⟩)
    (fun os started H enc _ => fnPolicyTrim_lifted os started H enc)
theorem fnPolicyTrim_card : Rows.FnPolicyTrimCardSaid :=
  Claim7.holds_tied_plain_at .later [] [.data, .data, .data] true (true, "e5285b4dfec83ce1191f224f2249e333f59ff691aa3990693bdc3cbb67853b79") false
    fnPolicyTrim_holds (fun _ h => by cases h) (by kernel_rfl) (fun _ h => by cases h) fnPolicyTrim_row_tie rfl ⟨rfl, rfl⟩ (by kernel_rfl) rfl
    (fun f fn hf hfn => by
      obtain rfl : f = 8 := Option.some.inj ((show Tryd.prog.funcNamed "loop.example/gatelodge/laws.FnPolicyTrim" = some 8 by kernel_rfl).symm.trans hf) |>.symm
      obtain rfl : fn = Tryd.f8 := (Option.some.inj (Tryd.func8.symm.trans hfn)).symm
      exact ⟨by kernel_rfl, fun j t ht => by
        rw [Tryd.params8] at ht
        have hm : t ∈ [22, 22] := by simpa using Array.mem_of_getElem? ht
        have hall : ([22, 22].all fun u => !Tryd.prog.wantsStandIn u) = true := by kernel_rfl
        exact (show Tryd.prog.wantsStandIn t = false by simpa using List.all_eq_true.1 hall t hm)⟩)
    (by kernel_rfl)
#print axioms fnPolicyTrim_card
end Go.Proofs.YtljgaepgblakhaaDoor
