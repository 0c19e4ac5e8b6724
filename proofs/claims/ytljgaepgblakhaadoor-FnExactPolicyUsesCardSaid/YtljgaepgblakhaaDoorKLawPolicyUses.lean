/- FnExactPolicyUses: for every policy the law returns true and leaves its argument as it was. The tables are tied to the program's text. No condition. -/
import Derived.Test.YtljgaepgblakhaaDoorPolMid
import Derived.Test.YtljgaepgblakhaaDoorIntsY
import Derived.Test.YtljgaepgblakhaaDoorPolTied
namespace Go.Proofs.YtljgaepgblakhaaDoor
set_option linter.unusedSimpArgs false
open Go.ChangeShapes Go.WideShapes Go.ChangeAt Go.RowKit
set_option linter.unusedVariables false
set_option linter.unnecessarySimpa false
theorem own_mid {w wk W : World} {base e size n lo hi : Nat} {v : Value} {xs : List Value} (h : w.ownsRow base e size v n xs) (m : Mid lo hi w wk) (h1 : lo ≤ base) (h2 : w.heap.size ≤ hi) (k : Below wk.heap.size wk W) : W.ownsRow base e size v n xs := by
  refine ⟨h.1, ?_⟩
  rcases h.2 with hn | ⟨g, cap, cur, rfl, hb, hgg, rest⟩
  · exact .inl hn
  · have hg := (Array.getElem?_eq_some_iff.1 hgg).1
    have e1 := m.block g hg ⟨by omega, by omega⟩
    have hg2 := m.size
    exact .inr ⟨g, cap, cur, rfl, hb, (k.block g (by omega)).trans (e1.trans hgg), rest⟩
theorem own_geU {w : World} {base e size n : Nat} {v : Value} {xs : List Value} (h : w.ownsRow base e size v n xs) : ∀ b, v.ownBlock = some b → base ≤ b := fun b hb => (h.lt b hb).1
theorem usesP_len (p : Pol) : (usesP p).length ≤ 5 := by
  unfold usesP usesR
  split
  · exact Nat.le_trans (List.length_filter_le _ _) (by decide)
  · simp
theorem toPolicy_g (rs : List Rl) (e : Int) (hts : ∀ r ∈ rs, r.ts.length ≤ 1048576) (hn : rs.length ≤ 1048576) (A : Option Addr) (c : Nat) (W : World) (h : RdR W W.heap.size A rs.length rs) : Calls Tryd.prog 40 #[.agg #[.slice A rs.length c, .int .i64 e]] W (fun x w' => ∃ A c qs, x = .returned (.agg #[.slice A rs.length c, .int .i64 e]) ∧ rls qs = rs ∧ OP w' W.heap.size w'.heap.size 35 83 A rs.length c qs ∧ Apart qs ∧ Below W.heap.size W w') := toPolicyP_c A rs.length c rs e W h hn hts
theorem uses_x (rs : List Rl) (e : Int) (hn : rs.length ≤ 9223372036854775807) : ∃ (R : List Int), R.length ≤ 5 ∧
    (∀ A c W, RdR W W.heap.size A rs.length rs → Calls Tryd.prog 35 #[.agg #[.slice A rs.length c, .int .i64 e]] W (RetOwn 3 1 R.length (ints R) W)) ∧
    (∀ A c W, RdR W W.heap.size A rs.length rs → PT W W.heap.size → Calls Tryd.prog 33 #[.agg #[.slice A rs.length c, .int .i64 e]] W (RetOwn 3 1 R.length (ints R) W)) :=
  ⟨usesP ⟨rs, e⟩, usesP_len _, fun A c W h => specPolicyUses_c A _ c rs e W hn h, fun A c W h k => policyUses_c A _ c rs e W hn h k⟩
set_option maxHeartbeats 4000000 in
theorem policyUses_law (A : Option Addr) (n c : Nat) (rs : List Rl) (e : Int) (w : World) (hr : RdR w w.heap.size A n rs) (hn : n ≤ 9223372036854775807) (hp : PT w w.heap.size) :
    Calls Tryd.prog 10 #[.agg #[.slice A n c, .int .i64 e]] w (RetB (.bool true) w) := by
  have hl1 := hr.1
  subst hl1
  have HR := Lib.hid hr
  have HP := Lib.hid hp
  clear hr hp
  by_cases hbig : rs.length + ruleN rs ≤ 1048576
  · have HS1 := Lib.hid (fun W h => szPolicy_in A rs.length c rs e W h hn hbig)
    have HT1 := Lib.hid (toPolicy_g rs e (fun r h => by have := ruleN_mem h; omega) (by omega))
    obtain ⟨R, hRl, hS, hI⟩ := uses_x rs e hn
    have HS := Lib.hid hS
    have HI := Lib.hid hI
    clear hS hI
    obtain ⟨m, hm⟩ : ∃ m, R.length = m := ⟨_, rfl⟩
    rw [hm] at HS HI hRl
    clear hm
    go_enter Tryd.func10, Tryd.ntmps10
    go_wp2_with (go_at_call 39; refine (HS1.out _ (HR.out.upB (by go_grown) (by go_size))).mono ?_; rintro e w1 ⟨rfl, b1⟩; obtain ⟨gc1, gf1⟩ := below_get b1; (try simp only [heap_drew, World.size_alloc, World.size_setCell] at gc1 gf1); have s1 := below_via (w := w) (by go_grown) b1; have H1 := s1; have hs1 := b1.size; (try simp at hs1); have z1_0 : w.heap.size < w1.heap.size := (by omega); clear b1)
    rename ((0 : Int) ≤ _) => h
    clear h
    (go_wp2_with fail); (go_at_call 40; refine (HT1.out _ _ _ ((HR.out.below (show Below w.heap.size w _ from below_via H1 (by go_grown))).more (by (try simp); omega))).mono ?_; rintro e w2 ⟨A2, c2, qs2, rfl, e2, o2, p2, b2⟩; have R2 := Lib.hid (o2.rd); rw [e2] at R2; clear o2 p2 e2; obtain ⟨gc2, gf2⟩ := below_get b2; (try simp only [heap_drew, World.size_alloc, World.size_setCell] at gc2 gf2); have s2 := below_via (w := w1) (by go_grown) b2; have H2 := below_via H1 s2; have hs2 := b2.size; (try simp at hs2); have z2_0 : w.heap.size < w2.heap.size := (by omega); clear b2)
    (go_wp2_with fail); (go_at_call 35; refine (HS.out _ _ _ (R2.out.upB (by go_grown) (by go_size))).mono ?_; rintro e w3 ⟨A3, c3, rfl, o3, b3⟩; have R3 := Lib.hid (Rd.of_own o3); clear o3; obtain ⟨gc3, gf3⟩ := below_get b3; (try simp only [heap_drew, World.size_alloc, World.size_setCell] at gc3 gf3); have s3 := below_via (w := w2) (by go_grown) b3; have H3 := below_via H2 s3; have hs3 := b3.size; (try simp at hs3); have z3_0 : w.heap.size < w3.heap.size := (by omega); clear b3; clear R2)
    (go_wp2_with fail); (go_at_call 40; refine (HT1.out _ _ _ ((HR.out.below (show Below w.heap.size w _ from below_via H3 (by go_grown))).more (by (try simp); omega))).mono ?_; rintro e w4 ⟨A4, c4, qs4, rfl, e4, o4, p4, b4⟩; have O4 := Lib.hid o4; have P4 := Lib.hid p4; have E4 := Lib.hid e4; have MX4 := Lib.hid (Mid.start w3.heap.size w4.heap.size w4); have KW4 := below_via (w := w3) (by go_grown) b4; obtain ⟨gc4, gf4⟩ := below_get b4; (try simp only [heap_drew, World.size_alloc, World.size_setCell] at gc4 gf4); have s4 := below_via (w := w3) (by go_grown) b4; have H4 := below_via H3 s4; have hs4 := b4.size; (try simp at hs4); have z4_0 : w.heap.size < w4.heap.size := (by omega); clear b4; clear o4 p4 e4)
    (go_wp2_with fail); (go_at_call 33; refine (HI.out _ _ _ (OP.rdX (O4.out.mid MX4.out (Nat.le_refl _) (Nat.le_refl _) (by go_grown)) E4.out) ((HP.out.below (show Below w.heap.size w _ from below_via H4 (by go_grown))).more (by (try simp); omega))).mono ?_; rintro e w5 ⟨A5, c5, rfl, o5, b5⟩; simp only [World.size_alloc, World.size_setCell] at o5; have O5 := Lib.hid o5; have MG5 := Lib.hid (Mid.start (w4.heap.size + 1) w5.heap.size w5); have MX5 := Lib.hid (MX4.out.via (by go_grown) b5); have KW5 := below_via KW4 (below_via (by go_grown) b5); obtain ⟨gc5, gf5⟩ := below_get b5; (try simp only [heap_drew, World.size_alloc, World.size_setCell] at gc5 gf5); have s5 := below_via (w := w4) (by go_grown) b5; have H5 := below_via H4 s5; have hs5 := b5.size; (try simp at hs5); have z5_0 : w.heap.size < w5.heap.size := (by omega); have z5_1 : w4.heap.size < w5.heap.size := (by omega); clear b5; clear o5)
    (go_wp2_with fail); (go_at_call 44; refine (eqIntS_y A5 A3 m c5 c3 R _ (Rd.of_own (own_mid O5.out MG5.out (Nat.le_refl _) (Nat.le_refl _) (by go_grown))) ((R3.out.below (show Below _ _ _ from below_via KW5 (by go_grown))).more (by (try simp); omega)) (by omega)).mono ?_; rintro e w6 ⟨rfl, b6⟩; have MX6 := Lib.hid (MX5.out.via (by go_grown) b6); have MG6 := Lib.hid (MG5.out.via (by go_grown) b6); have KW6 := below_via KW5 (below_via (by go_grown) b6); obtain ⟨gc6, gf6⟩ := below_get b6; (try simp only [heap_drew, World.size_alloc, World.size_setCell] at gc6 gf6); have s6 := below_via (w := w5) (by go_grown) b6; have H6 := below_via H5 s6; have hs6 := b6.size; (try simp at hs6); have z6_0 : w.heap.size < w6.heap.size := (by omega); have z6_1 : w4.heap.size < w6.heap.size := (by omega); clear b6)
    go_wp2_with fail
    go_region_held3 (fun w' => w'.cell? ⟨w.heap.size, 0, none⟩ = some (.slice A rs.length c) ∧ w'.cell? ⟨w.heap.size, 1, none⟩ = some (.int .i64 e) ∧ w'.cell? ⟨w4.heap.size, 0, none⟩ = some (.slice A4 rs.length c4) ∧ w'.cell? ⟨w4.heap.size, 1, none⟩ = some (.int .i64 e)) (simp [go_sem, *])
      (first
       | (go_at_call 40; refine (HT1.out _ _ _ ((HR.out.below (show Below w.heap.size w _ from below_via H6 (by go_grown))).more (by (try simp); omega))).mono ?_; rintro e w7 ⟨A7, c7, qs7, rfl, e7, o7, p7, b7⟩; have R7 := Lib.hid (o7.rd); rw [e7] at R7; clear o7 p7 e7; have MX7 := Lib.hid (MX6.out.via (by go_grown) b7); have MG7 := Lib.hid (MG6.out.via (by go_grown) b7); have KW7 := below_via KW6 (below_via (by go_grown) b7); obtain ⟨gc7, gf7⟩ := below_get b7; (try simp only [heap_drew, World.size_alloc, World.size_setCell] at gc7 gf7); have s7 := below_via (w := w6) (by go_grown) b7; have H7 := below_via H6 s7; have hs7 := b7.size; (try simp at hs7); have z7_0 : w.heap.size < w7.heap.size := (by omega); have z7_1 : w4.heap.size < w7.heap.size := (by omega); clear b7)
       | (go_at_call 41; refine (eqPolicy_c A4 A7 _ c4 _ c7 rs rs e e _ (OP.rdX (O4.out.mid MX7.out (Nat.le_refl _) (Nat.le_refl _) (by go_grown)) E4.out) (R7.out.upB (by go_grown) (by go_size)) hn hn).mono ?_; rintro e w8 ⟨rfl, b8⟩; have MX8 := Lib.hid (MX7.out.via (by go_grown) b8); have MG8 := Lib.hid (MG7.out.via (by go_grown) b8); have KW8 := below_via KW7 (below_via (by go_grown) b8); obtain ⟨gc8, gf8⟩ := below_get b8; (try simp only [heap_drew, World.size_alloc, World.size_setCell] at gc8 gf8); have s8 := below_via (w := w7) (by go_grown) b8; have H8 := below_via H7 s8; have hs8 := b8.size; (try simp at hs8); have z8_0 : w.heap.size < w8.heap.size := (by omega); have z8_1 : w4.heap.size < w8.heap.size := (by omega); clear b8))
    (go_wp2_with fail); (go_at_call 42; refine (markPolicy_c w3.heap.size w4.heap.size A4 _ c4 e 1 qs4 _ (O4.out.mid MX8.out (Nat.le_refl _) (Nat.le_refl _) (by go_grown)) P4.out (by (try simp) <;> omega) (by omega) (by have := cnt_of E4.out; omega)).mono ?_; rintro e w9 ⟨rfl, o9, b9⟩; have MG9 := Lib.hid (MG8.out.viaK (by go_grown) b9 (fun t h1 h2 => by omega)); have KW9 := below_mark KW8 (by go_grown) b9 (Nat.le_refl _); have hs9 := b9.size; (try simp at hs9); have H9 := below_mark H8 (by go_grown) b9 (by omega); have gc9_0 := fun o => keep_cell b9 (b := w.heap.size) (o := o) (by (try simp); omega) (by omega); have z9_0 : w.heap.size < w9.heap.size := (by omega); clear b9; clear o9 MX8)
    (go_wp2_with fail); (go_at_call 44; refine (eqIntS_y A5 A3 m c5 c3 R _ (Rd.of_own (own_mid O5.out MG9.out (Nat.le_refl _) (Nat.le_refl _) (by go_grown))) ((R3.out.below (show Below _ _ _ from below_via KW9 (by go_grown))).more (by (try simp); omega)) (by omega)).mono ?_; rintro e w10 ⟨rfl, b10⟩; have MG10 := Lib.hid (MG9.out.via (by go_grown) b10); have KW10 := below_via KW9 (below_via (by go_grown) b10); obtain ⟨gc10, gf10⟩ := below_get b10; (try simp only [heap_drew, World.size_alloc, World.size_setCell] at gc10 gf10); have s10 := below_via (w := w9) (by go_grown) b10; have H10 := below_via H9 s10; have hs10 := b10.size; (try simp at hs10); have z10_0 : w.heap.size < w10.heap.size := (by omega); clear b10)
    have OX := Lib.hid (own_mid O5.out MG10.out (Nat.le_refl _) (Nat.le_refl _) (Below.refl _ _))
    (go_wp2_with fail); (go_at_call 45; refine (markIntS_y _ A5 m c5 1 _ _ OX.out (by omega)).mono ?_; rintro e w11 ⟨rfl, o11, g11⟩; have O11 := Lib.hid o11; have hs11 := g11.size; (try simp at hs11); have hge : ∀ b, (Value.slice A5 m c5).ownBlock = some b → w4.heap.size + 1 ≤ b := own_geU OX.out; have KW11 := Lib.hid (KW10.grown g11 (by omega) (fun b eb => by have := hge b eb; omega)); have H11 := H10.grown g11 (by omega) (fun b eb => by have := hge b eb; omega); have gc11_0 := fun o => World.cell?_of_block (w := w10) (a := ⟨w.heap.size, o, none⟩) (g11.block w.heap.size z10_0 (fun eb => by have := hge _ eb.symm; omega)); have z11_0 : w.heap.size < w11.heap.size := (by omega); have MG11 := Lib.hid (Mid.start (w4.heap.size + 1) w11.heap.size w11); have O11b := Lib.hid (own_base O11.out (Nat.le_refl _)); clear o11 g11)
    (go_wp2_with fail); (go_at_call 46; refine (heldIntS_y A5 m c5 1 _ (Rd.of_own (own_mid O11.out MG11.out (Nat.le_refl _) (Nat.le_refl _) (by go_grown))) (by omega)).mono ?_; rintro e w12 ⟨rfl, b12⟩; have MG12 := Lib.hid (MG11.out.via (by go_grown) b12); have KW12 := below_via KW11.out (below_via (by go_grown) b12); obtain ⟨gc12, gf12⟩ := below_get b12; (try simp only [heap_drew, World.size_alloc, World.size_setCell] at gc12 gf12); have s12 := below_via (w := w11) (by go_grown) b12; have H12 := below_via H11 s12; have hs12 := b12.size; (try simp at hs12); have z12_0 : w.heap.size < w12.heap.size := (by omega); clear b12)
    (go_wp2_with fail); (go_at_call 40; refine (HT1.out _ _ _ ((HR.out.below (show Below w.heap.size w _ from below_via H12 (by go_grown))).more (by (try simp); omega))).mono ?_; rintro e w13 ⟨A13, c13, qs13, rfl, e13, o13, p13, b13⟩; have R13 := Lib.hid (o13.rd); rw [e13] at R13; clear o13 p13 e13; have MG13 := Lib.hid (MG12.out.via (by go_grown) b13); have KW13 := below_via KW12 (below_via (by go_grown) b13); obtain ⟨gc13, gf13⟩ := below_get b13; (try simp only [heap_drew, World.size_alloc, World.size_setCell] at gc13 gf13); have s13 := below_via (w := w12) (by go_grown) b13; have H13 := below_via H12 s13; have hs13 := b13.size; (try simp at hs13); have z13_0 : w.heap.size < w13.heap.size := (by omega); clear b13)
    (go_wp2_with fail); (go_at_call 33; refine (HI.out _ _ _ (R13.out.upB (by go_grown) (by go_size)) ((HP.out.below (show Below w.heap.size w _ from below_via H13 (by go_grown))).more (by (try simp); omega))).mono ?_; rintro e w14 ⟨A14, c14, rfl, o14, b14⟩; have R14 := Lib.hid (Rd.of_own o14); clear o14; have MG14 := Lib.hid (MG13.out.via (by go_grown) b14); have KW14 := below_via KW13 (below_via (by go_grown) b14); obtain ⟨gc14, gf14⟩ := below_get b14; (try simp only [heap_drew, World.size_alloc, World.size_setCell] at gc14 gf14); have s14 := below_via (w := w13) (by go_grown) b14; have H14 := below_via H13 s14; have hs14 := b14.size; (try simp at hs14); have z14_0 : w.heap.size < w14.heap.size := (by omega); clear b14)
    (go_wp2_with fail); (go_at_call 44; refine (eqIntS_y A14 A3 m c14 c3 R _ (R14.out.upB (by go_grown) (by go_size)) ((R3.out.below (show Below _ _ _ from below_via KW14 (by go_grown))).more (by (try simp); omega)) (by omega)).mono ?_; rintro e w15 ⟨rfl, b15⟩; have MG15 := Lib.hid (MG14.out.via (by go_grown) b15); obtain ⟨gc15, gf15⟩ := below_get b15; (try simp only [heap_drew, World.size_alloc, World.size_setCell] at gc15 gf15); have s15 := below_via (w := w14) (by go_grown) b15; have H15 := below_via H14 s15; have hs15 := b15.size; (try simp at hs15); have z15_0 : w.heap.size < w15.heap.size := (by omega); clear b15)
    (go_wp2_with fail); (go_at_call 46; refine (heldIntS_y A5 m c5 1 _ (Rd.of_own (own_mid O11.out MG15.out (Nat.le_refl _) (Nat.le_refl _) (by go_grown))) (by omega)).mono ?_; rintro e w16 ⟨rfl, b16⟩; obtain ⟨gc16, gf16⟩ := below_get b16; (try simp only [heap_drew, World.size_alloc, World.size_setCell] at gc16 gf16); have s16 := below_via (w := w15) (by go_grown) b16; have H16 := below_via H15 s16; have hs16 := b16.size; (try simp at hs16); have z16_0 : w.heap.size < w16.heap.size := (by omega); clear b16)
    go_wp2
    go_returns
    exact ⟨rfl, by go_grown⟩
  · go_enter Tryd.func10, Tryd.ntmps10
    go_wp2_with (go_at_call 39; refine (szPolicy_c A rs.length c rs e _ _ (HR.out.upB (by go_grown) (by go_size)) hn (by omega) (by omega)).mono ?_; rintro e w1 ⟨rfl, b1⟩; obtain ⟨gc1, gf1⟩ := below_get b1; (try simp only [heap_drew, World.size_alloc, World.size_setCell] at gc1 gf1); have s1 := below_via (w := w) (by go_grown) b1; have H1 := s1; have hs1 := b1.size; (try simp at hs1); have z1_0 : w.heap.size < w1.heap.size := (by omega); clear b1)
    · go_returns
      exact ⟨rfl, by go_grown⟩
    all_goals (exfalso; rename (0 ≤ szV _ _) => h; simp [szV] at h; split at h <;> omega)
theorem fnExactPolicyUses_w (v0 : Value) (w : World) (h0 : IsPolicy w v0) (hK : PT w w.heap.size) : Calls Tryd.prog 10 #[v0] w (RetB (.bool true) w) := by
  obtain ⟨A, n, c, rs, e, rfl, hr, hn⟩ := h0
  exact policyUses_law A n c rs e w hr (by unfold maxLen at hn; omega) hK
set_option maxRecDepth 100000 in
theorem fnExactPolicyUses_lifted (os : Os) (started : os.Started) (H : Type) (enc : TypeId × Value → H) :
    ReturnsInHanded {} Tryd.checked os 10 .any (fun w args => (Rows.fnExactPolicyUsesSpec.pre enc Tryd.prog Tryd.f10 [] false w args ∧ laidMetH Tryd.prog Rows.fnExactPolicyUsesRow.laid w) ∧ sizedMet enc Tryd.prog Tryd.f10 (OpenSpec.ofChange Rows.fnExactPolicyUsesSpec) false w args)
      (Rows.fnExactPolicyUsesSpec.post enc Tryd.prog Tryd.f10 false true false false) := by
  refine returnsInHanded_of_change_and (C := Tryd.checked) (X := fun w _ => laidMetH Tryd.prog Rows.fnExactPolicyUsesRow.laid w) (fun _ _ _ hh h => h.of_heap hh) own started (by kernel_rfl) Tryd.func10
    (ChangeSpec.witness_shaped (enc := enc) (C := Tryd.checked) (os := os) (X := fun w _ => laidMetH Tryd.prog Rows.fnExactPolicyUsesRow.laid w) false (World.doorLaid Tryd.prog 400 os) #[.agg #[.slice none 0 0, .int .i64 0]] 8 rfl (World.shaped_of_RefB (by kernel_rfl) (by kernel_rfl)) (by kernel_rfl) (by kernel_rfl) (by kernel_rfl) (laid_met os _)) ?_
  intro W base args ds gs before hval0 hW _ _ hL _
  have hval : ∀ (j : Nat) t v, Tryd.f10.params[j]? = some t → args[j]? = some v → Value.okWide Tryd.prog W .any base t v := hval0
  have hW' := hW
  obtain ⟨p, q, hA0, hV, rfl, hfz, hnd⟩ := hW
  have hA : DataW.TrodAll enc Tryd.prog W 0 (fun _ => true) true Tryd.f10.params.toList args.toList ds p := hA0
  rw [Tryd.params10] at hA hval
  obtain ⟨v0, vs0, d0, ds0, p0, q0, hargs, rfl, rfl, h0, r0⟩ := trodAll_cons hA
  obtain ⟨rfl, rfl, rfl⟩ := trodAll_nil r0
  obtain rfl : args = #[v0] := by cases args; simp_all
  obtain ⟨rfl, rfl⟩ := trodVars_none hV
  have k0 := h0
  have lt0 : ∀ x ∈ p0, x.block < W.heap.size := by obtain ⟨m, hm⟩ := k0; exact DataW.trod_lt m _ _ _ hm
  have o0 := open_Policy (hval 0 57 v0 rfl rfl) h0
  clear hA0 hval0
  refine (fnExactPolicyUses_w v0 W o0 (pt_of_laid hL)).mono fun e W' ⟨he, bel⟩ => ?_
  subst he
  exact ⟨_, rfl, _, _, _, [], _, [], hW', trodAll_mk1 (shut_bool Tryd.underlying4 _), (trodAll_cons_mk (Below.trod laidOut (by kernel_rfl) (of_decide_eq_true (by kernel_rfl)) k0 bel lt0) trodAll_mk0), rfl, bel.frame _, fun h => by cases h⟩

theorem fnExactPolicyUses_holds : Rows.FnExactPolicyUsesSaid :=
  OpenClaim.holds_of_wide 10 Tryd.f10 rfl rfl rfl rfl rfl rfl rfl ⟨rfl, rfl, rfl, rfl, rfl⟩ rfl rfl rfl rfl rfl (by kernel_rfl) Tryd.func10 (by kernel_rfl)
    (of_decide_eq_true (by kernel_rfl)) (by unfold Func.isWrapper; rw [if_neg (of_decide_eq_false (by kernel_rfl))]; exact ⟨rfl, rfl⟩)
    (fun os started H enc _ => fnExactPolicyUses_lifted os started H enc)
theorem fnExactPolicyUses_card : Rows.FnExactPolicyUsesCardSaid :=
  Claim7.holds_tied_plain_at .later [] [.data, .data, .data] true (true, "e5285b4dfec83ce1191f224f2249e333f59ff691aa3990693bdc3cbb67853b79") false
    fnExactPolicyUses_holds (fun _ h => by cases h) (by kernel_rfl) (fun _ h => by cases h) fnExactPolicyUses_row_tie rfl ⟨rfl, rfl⟩ (by kernel_rfl) rfl
    (fun f fn hf hfn => by
      obtain rfl : f = 10 := Option.some.inj ((show Tryd.prog.funcNamed "loop.example/gatelodge/laws.FnExactPolicyUses" = some 10 by kernel_rfl).symm.trans hf) |>.symm
      obtain rfl : fn = Tryd.f10 := (Option.some.inj (Tryd.func10.symm.trans hfn)).symm
      exact ⟨by kernel_rfl, fun j t ht => by
        rw [Tryd.params10] at ht
        have hm : t ∈ [57] := by simpa using Array.mem_of_getElem? ht
        have hall : ([57].all fun u => !Tryd.prog.wantsStandIn u) = true := by kernel_rfl
        exact (show Tryd.prog.wantsStandIn t = false by simpa using List.all_eq_true.1 hall t hm)⟩)
    (by kernel_rfl)
#print axioms fnExactPolicyUses_card
end Go.Proofs.YtljgaepgblakhaaDoor
