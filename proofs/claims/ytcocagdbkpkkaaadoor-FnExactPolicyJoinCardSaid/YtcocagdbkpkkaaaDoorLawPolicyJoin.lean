/- FnExactPolicyJoin: for all policies the law returns true and leaves its arguments as they were. The tables are tied to the program's text. No condition. -/
import Derived.Test.YtcocagdbkpkkaaaDoorPolMid
import Derived.Deep.CutBlock
import Derived.Deep.CutRange
namespace Go.Proofs.YtcocagdbkpkkaaaDoor
set_option linter.unusedSimpArgs false
open Go.ChangeShapes Go.WideShapes Go.ChangeAt Go.RowKit
set_option linter.unusedVariables false
set_option maxRecDepth 20000
/-- The call returns such a policy in memory of its own. -/
def RetPX (ER ET : Nat) (Rs : List Rl) (Re : Int) (w : World) (e : Ending) (w' : World) : Prop :=
  ∃ A c qs, e = .returned (.agg #[.slice A Rs.length c, .int .i64 Re]) ∧ rls qs = Rs ∧ OP w' w.heap.size w'.heap.size ER ET A Rs.length c qs ∧ Apart qs ∧ Below w.heap.size w w'
theorem toPolicy_x (rs : List Rl) (e : Int) (hts : ∀ r ∈ rs, r.ts.length ≤ 1048576) (hn : rs.length ≤ 1048576) (A : Option Addr) (c : Nat) (W : World) (h : RdR W W.heap.size A rs.length rs) : Calls Tryd.prog 16 #[.agg #[.slice A rs.length c, .int .i64 e]] W (RetPX 58 67 rs e W) := toPolicyP_c A rs.length c rs e W h hn hts
theorem join_x (rs : List Rl) (e : Int) (rs' : List Rl) (e' : Int) (hn : rs.length ≤ 9223372036854775807) (hm : rs'.length ≤ 9223372036854775807) : ∃ (Rs : List Rl) (Re : Int) (ok : Bool), Few Rs ∧
    (∀ A c B d W, RdR W W.heap.size A rs.length rs → RdR W W.heap.size B rs'.length rs' → Calls Tryd.prog 28 #[.agg #[.slice A rs.length c, .int .i64 e], .agg #[.slice B rs'.length d, .int .i64 e']] W (RetPB 58 67 Rs Re ok W)) ∧
    (∀ A c B d W, RdR W W.heap.size A rs.length rs → RdR W W.heap.size B rs'.length rs' → PT W W.heap.size → Calls Tryd.prog 29 #[.agg #[.slice A rs.length c, .int .i64 e], .agg #[.slice B rs'.length d, .int .i64 e']] W (RetPB 58 67 Rs Re ok W)) :=
  ⟨(joinP ⟨rs, e⟩ ⟨rs', e'⟩).rs, (joinP ⟨rs, e⟩ ⟨rs', e'⟩).els, joinB ⟨rs, e⟩ ⟨rs', e'⟩, few_join _ _,
    fun A c B d W h1 h2 => specPolicyJoin_c A _ c rs e B _ d rs' e' W hn hm h1 h2,
    fun A c B d W h1 h2 h3 => policyJoin_c A _ c rs e B _ d rs' e' W hn hm h1 h2 h3⟩
set_option maxHeartbeats 1600000 in
theorem policyJoin_law (A : Option Addr) (n c : Nat) (rs : List Rl) (e : Int) (B : Option Addr) (m d : Nat) (rs' : List Rl) (e' : Int) (w : World) (hr : RdR w w.heap.size A n rs) (hn : n ≤ 9223372036854775807) (hq : RdR w w.heap.size B m rs') (hm : m ≤ 9223372036854775807) (hp : PT w w.heap.size) :
    Calls Tryd.prog 7 #[.agg #[.slice A n c, .int .i64 e], .agg #[.slice B m d, .int .i64 e']] w (RetB (.bool true) w) := by
  have hl1 := hr.1
  have hl2 := hq.1
  subst hl1 hl2
  have HR := Lib.hid hr
  have HQ := Lib.hid hq
  have HP := Lib.hid hp
  clear hr hq hp
  by_cases hbig : rs.length + ruleN rs ≤ 1048576
  · have hS1 := fun W h => szPolicy_in A rs.length c rs e W h hn hbig
    obtain ⟨L, hL⟩ : ∃ L : Int, 1048576 - ((rs.length + ruleN rs : Nat) : Int) = L := ⟨_, rfl⟩
    rw [hL] at hS1
    have HS1 := Lib.hid hS1
    clear hS1
    by_cases hbig2 : ((rs'.length + ruleN rs' : Nat) : Int) ≤ L
    · have hS2 := fun W h => szPolicy_le B rs'.length d rs' e' L W h hm (by omega) hbig2
      obtain ⟨L2, hL2⟩ : ∃ L2 : Int, L - ((rs'.length + ruleN rs' : Nat) : Int) = L2 := ⟨_, rfl⟩
      rw [hL2] at hS2
      have HS2 := Lib.hid hS2
      have hL0 : ¬ L < 0 := by omega
      have hL20 : ¬ L2 < 0 := by omega
      clear hS2
      have HT1 := Lib.hid (toPolicy_x rs e (fun r h => by have := ruleN_mem h; omega) (by omega))
      have HT2 := Lib.hid (toPolicy_x rs' e' (fun r h => by have := ruleN_mem h; omega) (by omega))
      obtain ⟨Rs, Re, ok, hfew, hS, hI⟩ := join_x rs e rs' e' hn hm
      have HS := Lib.hid hS
      have HI := Lib.hid hI
      clear hS hI
      have hfl := hfew.1
      have HF := Lib.hid hfew
      clear hfew
      have HB0 := Lib.hid (blk_two w 24 24 [.slice A rs.length c, .int .i64 e] [.slice B rs'.length d, .int .i64 e'])
      go_enter Tryd.func7, Tryd.ntmps7
      (go_wp2_with fail); (go_at_call 14; refine (HS1.out _ (HR.out.upB (by go_grown) (by go_size))).mono ?_; rintro e w0 ⟨rfl, b0⟩; have Y0 := Lib.hid (HB0.out.1.up b0); have Z0 := Lib.hid (HB0.out.2.up b0); obtain ⟨gc0, gf0⟩ := below_get b0; (try simp only [heap_drew, World.size_alloc, World.size_setCell] at gc0 gf0); have H0 := below_via (w := w) (by go_grown) b0; have hs0 := b0.size; (try simp at hs0); have z0_0 : w.heap.size < w0.heap.size := (by omega); have z0_1 : w.heap.size + 1 < w0.heap.size := (by omega); clear b0)
      (go_wp2_with fail); (go_at_call 14; refine (HS2.out _ ((HQ.out.below (show Below w.heap.size w _ from below_via H0 (by go_grown))).more (by (try simp); omega))).mono ?_; rintro e w1 ⟨rfl, b1⟩; have Y1 := Lib.hid (Y0.out.up (below_via (by go_grown) b1)); have Z1 := Lib.hid (Z0.out.up (below_via (by go_grown) b1)); clear Y0 Z0; obtain ⟨gc1, gf1⟩ := below_get b1; (try simp only [heap_drew, World.size_alloc, World.size_setCell] at gc1 gf1); have s1 := below_via (w := w) (by go_grown) b1; have H1 := s1; have hs1 := b1.size; (try simp at hs1); have z1_0 : w.heap.size < w1.heap.size := (by omega); have z1_1 : w.heap.size + 1 < w1.heap.size := (by omega); clear b1)
      go_upto_region 8 with (fail)
      have y0 := Y1.out.cell (i := 0) rfl
      have y1 := Y1.out.cell (i := 1) rfl
      have z0 := Z1.out.cell (i := 0) rfl
      have z1 := Z1.out.cell (i := 1) rfl
      go_cut [6, 7] (fun v6 v7 wx => v7 = .bool ok ∧ ∃ (g : Nat) (A3 : Option Addr) (c3 : Nat), v6 = .pointer (some ⟨g, 0, none⟩) ∧ w1.heap.size ≤ g ∧ Hid (Blk wx g 29 [.slice A3 Rs.length c3, .int .i64 Re]) ∧ Hid (RdR wx wx.heap.size A3 Rs.length Rs) ∧ Hid (Blk wx w.heap.size 24 [.slice A rs.length c, .int .i64 e]) ∧ Hid (Blk wx (w.heap.size + 1) 24 [.slice B rs'.length d, .int .i64 e']) ∧ Hid (Below w.heap.size w wx))
      case first =>
        go_region_held3 (fun w' => w'.cell? ⟨w.heap.size, 0, none⟩ = some (.slice A rs.length c) ∧ w'.cell? ⟨w.heap.size, 1, none⟩ = some (.int .i64 e) ∧ w'.cell? ⟨w.heap.size + 1, 0, none⟩ = some (.slice B rs'.length d) ∧ w'.cell? ⟨w.heap.size + 1, 1, none⟩ = some (.int .i64 e')) (simp [go_sem, *])
          (first
           | (go_at_call_of 16 (Value.agg #[Value.slice A rs.length c, Value.int IntKind.i64 e]); refine (HT1.out _ _ _ ((HR.out.below (show Below w.heap.size w _ from below_via H1 (by go_grown))).more (by (try simp); omega))).mono ?_; rintro e w2 ⟨A2, c2, qs2, rfl, e2, o2, p2, b2⟩; have R2 := Lib.hid (o2.rd); rw [e2] at R2; clear o2 p2 e2; have BB2 := b2; obtain ⟨gc2, gf2⟩ := below_get b2; (try simp only [heap_drew, World.size_alloc, World.size_setCell] at gc2 gf2); have s2 := below_via (w := w1) (by go_grown) b2; have H2 := below_via H1 s2; have hs2 := b2.size; (try simp at hs2); have z2_0 : w.heap.size < w2.heap.size := (by omega); have z2_1 : w.heap.size + 1 < w2.heap.size := (by omega); clear b2; (try have zz2_1 : w1.heap.size < w2.heap.size := (by omega)))
           | (go_at_call_of 16 (Value.agg #[Value.slice B rs'.length d, Value.int IntKind.i64 e']); refine (HT2.out _ _ _ ((HQ.out.below (show Below w.heap.size w _ from below_via H2 (by go_grown))).more (by (try simp); omega))).mono ?_; rintro e w3 ⟨A3, c3, qs3, rfl, e3, o3, p3, b3⟩; have R3 := Lib.hid (o3.rd); rw [e3] at R3; clear o3 p3 e3; have BB3 := b3; obtain ⟨gc3, gf3⟩ := below_get b3; (try simp only [heap_drew, World.size_alloc, World.size_setCell] at gc3 gf3); have s3 := below_via (w := w2) (by go_grown) b3; have H3 := below_via H2 s3; have hs3 := b3.size; (try simp at hs3); have z3_0 : w.heap.size < w3.heap.size := (by omega); have z3_1 : w.heap.size + 1 < w3.heap.size := (by omega); clear b3; (try have zz3_1 : w1.heap.size < w3.heap.size := (by omega)); (try have zz3_2 : w2.heap.size < w3.heap.size := (by omega)))
           | (go_at_call 28; refine (HS.out _ _ _ _ _ ((R2.out.up s3).upB (by go_grown) (by go_size)) (R3.out.upB (by go_grown) (by go_size))).mono ?_; rintro e w4 ⟨A4, c4, qs4, rfl, e4, o4, p4, b4⟩; have O4 := Lib.hid o4; have E4 := Lib.hid e4; clear o4 p4 e4; have BB4 := b4; obtain ⟨gc4, gf4⟩ := below_get b4; (try simp only [heap_drew, World.size_alloc, World.size_setCell] at gc4 gf4); have s4 := below_via (w := w3) (by go_grown) b4; have H4 := below_via H3 s4; have hs4 := b4.size; (try simp at hs4); have z4_0 : w.heap.size < w4.heap.size := (by omega); have z4_1 : w.heap.size + 1 < w4.heap.size := (by omega); clear b4; (try have zz4_1 : w1.heap.size < w4.heap.size := (by omega)); (try have zz4_2 : w2.heap.size < w4.heap.size := (by omega)); (try have zz4_3 : w3.heap.size < w4.heap.size := (by omega))))
        all_goals
          have S4 := below_via (below_via s2 s3) s4
          go_wp2_with fail
          go_meet
          first
            | exact ⟨rfl, w4.heap.size, A4, c4, rfl, by omega, Blk.new w4 29 [.slice A4 Rs.length c4, .int .i64 Re], Lib.hid (OP.rdX (O4.out.up (by go_grown)) E4.out), Y1.out.up (show Below w1.heap.size w1 _ from by go_grown), Z1.out.up (show Below w1.heap.size w1 _ from by go_grown), by show Below _ _ _; go_grown⟩
            | (have X8 := Lib.hid ((Blk.new w3 29 [.slice none 0 0, .int .i64 0]).up BB4)
               exact ⟨rfl, w3.heap.size, A4, c4, rfl, by omega, (X8.out.set_ 0 _).set_ 1 _, Lib.hid (OP.rdX ((O4.out.set_ (o := 0) (.inl (by (try simp) <;> omega)) _).set_ (o := 1) (.inl (by (try simp) <;> omega)) _) E4.out), Y1.out.up (show Below w1.heap.size w1 _ from by go_grown), Z1.out.up (show Below w1.heap.size w1 _ from by go_grown), by show Below _ _ _; go_grown⟩)
            | (have X8 := Lib.hid (((Blk.new w2 29 [.slice none 0 0, .int .i64 0]).up BB3).up s4)
               exact ⟨rfl, w2.heap.size, A4, c4, rfl, by omega, (X8.out.set_ 0 _).set_ 1 _, Lib.hid (OP.rdX ((O4.out.set_ (o := 0) (.inl (by (try simp) <;> omega)) _).set_ (o := 1) (.inl (by (try simp) <;> omega)) _) E4.out), Y1.out.up (show Below w1.heap.size w1 _ from by go_grown), Z1.out.up (show Below w1.heap.size w1 _ from by go_grown), by show Below _ _ _; go_grown⟩)
            | (have X8 := Lib.hid ((((Blk.new w1 29 [.slice none 0 0, .int .i64 0]).drew.up BB2).up s3).up s4)
               exact ⟨rfl, w1.heap.size, A4, c4, rfl, by omega, (X8.out.set_ 0 _).set_ 1 _, Lib.hid (OP.rdX ((O4.out.set_ (o := 0) (.inl (by (try simp) <;> omega)) _).set_ (o := 1) (.inl (by (try simp) <;> omega)) _) E4.out), Y1.out.up (show Below w1.heap.size w1 _ from by go_grown), Z1.out.up (show Below w1.heap.size w1 _ from by go_grown), by show Below _ _ _; go_grown⟩)
      case rest =>
        clear y0 y1 z0 z1 Y1 Z1
        obtain ⟨rfl, g4, A4, c4, rfl, hg4, X4, R4, Y4, Z4, hH4⟩ := hcut
        rename World => w4
        have H4 := hH4.out
        have x40 := X4.out.cell (i := 0) rfl
        have x41 := X4.out.cell (i := 1) rfl
        have y40 := Y4.out.cell (i := 0) rfl
        have y41 := Y4.out.cell (i := 1) rfl
        have z40 := Z4.out.cell (i := 0) rfl
        have z41 := Z4.out.cell (i := 1) rfl
        have z4_0 := Y4.out.lt
        have z4_1 := Z4.out.lt
        have z4_2 := X4.out.lt
        have hs4 := H4.size
        have KW4 := Below.refl w4.heap.size w4
        (go_wp2_with fail); (go_at_call 16; refine (HT1.out _ _ _ ((HR.out.below (show Below w.heap.size w _ from below_via H4 (by go_grown))).more (by (try simp); omega))).mono ?_; rintro e w5 ⟨A5, c5, qs5, rfl, e5, o5, p5, b5⟩; have O5 := Lib.hid (o5.wide (show w4.heap.size ≤ _ by (try simp) <;> omega) (Nat.le_refl _)); have P5 := Lib.hid p5; have E5 := Lib.hid e5; have MX5 := Lib.hid (Mid.start w4.heap.size w5.heap.size w5); have KW5 := below_via (w := w4) (by go_grown) b5; obtain ⟨gc5, gf5⟩ := below_get b5; (try simp only [heap_drew, World.size_alloc, World.size_setCell] at gc5 gf5); have s5 := below_via (w := w4) (by go_grown) b5; have H5 := below_via H4 s5; have hs5 := b5.size; (try simp at hs5); have z5_0 : w.heap.size < w5.heap.size := (by omega); have z5_1 : w.heap.size + 1 < w5.heap.size := (by omega); have z5_2 : g4 < w5.heap.size := (by omega); clear b5; clear o5 p5 e5)
        (go_wp2_with fail); (go_at_call 16; refine (HT2.out _ _ _ ((HQ.out.below (show Below w.heap.size w _ from below_via H5 (by go_grown))).more (by (try simp); omega))).mono ?_; rintro e w6 ⟨A6, c6, qs6, rfl, e6, o6, p6, b6⟩; have O6 := Lib.hid (o6.wide (show w5.heap.size + 1 ≤ _ by (try simp) <;> omega) (Nat.le_refl _)); have P6 := Lib.hid p6; have E6 := Lib.hid e6; have MY6 := Lib.hid (Mid.start (w5.heap.size + 1) w6.heap.size w6); have MX6 := Lib.hid (MX5.out.via (by go_grown) b6); have KW6 := below_via KW5 (below_via (by go_grown) b6); obtain ⟨gc6, gf6⟩ := below_get b6; (try simp only [heap_drew, World.size_alloc, World.size_setCell] at gc6 gf6); have s6 := below_via (w := w5) (by go_grown) b6; have H6 := below_via H5 s6; have hs6 := b6.size; (try simp at hs6); have z6_0 : w.heap.size < w6.heap.size := (by omega); have z6_1 : w.heap.size + 1 < w6.heap.size := (by omega); have z6_2 : g4 < w6.heap.size := (by omega); have z6_3 : w5.heap.size < w6.heap.size := (by omega); clear b6; clear o6 p6 e6)
        (go_wp2_with fail); (go_at_call 29; refine (HI.out _ _ _ _ _ (OP.rdX (O5.out.mid MX6.out (Nat.le_refl _) (Nat.le_refl _) (by go_grown)) E5.out) (OP.rdX (O6.out.mid MY6.out (Nat.le_refl _) (Nat.le_refl _) (by go_grown)) E6.out) ((HP.out.below (show Below w.heap.size w _ from below_via H6 (by go_grown))).more (by (try simp); omega))).mono ?_; rintro e w7 ⟨A7, c7, qs7, rfl, e7, o7, p7, b7⟩; have O7 := Lib.hid (o7.wide (show w6.heap.size + 1 ≤ _ by (try simp) <;> omega) (Nat.le_refl _)); have P7 := Lib.hid p7; have E7 := Lib.hid e7; have MG7 := Lib.hid (Mid.start (w6.heap.size + 1) w7.heap.size w7); have MX7 := Lib.hid (MX6.out.via (by go_grown) b7); have MY7 := Lib.hid (MY6.out.via (by go_grown) b7); have KW7 := below_via KW6 (below_via (by go_grown) b7); obtain ⟨gc7, gf7⟩ := below_get b7; (try simp only [heap_drew, World.size_alloc, World.size_setCell] at gc7 gf7); have s7 := below_via (w := w6) (by go_grown) b7; have H7 := below_via H6 s7; have hs7 := b7.size; (try simp at hs7); have z7_0 : w.heap.size < w7.heap.size := (by omega); have z7_1 : w.heap.size + 1 < w7.heap.size := (by omega); have z7_2 : g4 < w7.heap.size := (by omega); have z7_3 : w5.heap.size < w7.heap.size := (by omega); have z7_4 : w6.heap.size < w7.heap.size := (by omega); clear b7; clear o7 p7 e7)
        (go_wp2_with fail); (go_at_call 18; refine (eqPolicy_c A7 A4 _ c7 _ c4 Rs Rs Re Re _ (OP.rdX (O7.out.mid MG7.out (Nat.le_refl _) (Nat.le_refl _) (by go_grown)) E7.out) ((R4.out.below (show Below _ _ _ from below_via KW7 (by go_grown))).more (by (try simp); omega)) (by omega) (by omega)).mono ?_; rintro e w8 ⟨rfl, b8⟩; have MX8 := Lib.hid (MX7.out.via (by go_grown) b8); have MY8 := Lib.hid (MY7.out.via (by go_grown) b8); have MG8 := Lib.hid (MG7.out.via (by go_grown) b8); have KW8 := below_via KW7 (below_via (by go_grown) b8); obtain ⟨gc8, gf8⟩ := below_get b8; (try simp only [heap_drew, World.size_alloc, World.size_setCell] at gc8 gf8); have s8 := below_via (w := w7) (by go_grown) b8; have H8 := below_via H7 s8; have hs8 := b8.size; (try simp at hs8); have z8_0 : w.heap.size < w8.heap.size := (by omega); have z8_1 : w.heap.size + 1 < w8.heap.size := (by omega); have z8_2 : g4 < w8.heap.size := (by omega); have z8_3 : w5.heap.size < w8.heap.size := (by omega); have z8_4 : w6.heap.size < w8.heap.size := (by omega); have z8_5 : w7.heap.size < w8.heap.size := (by omega); clear b8)
        go_wp2_with fail
        go_region_held3 (fun w' => w'.cell? ⟨w.heap.size, 0, none⟩ = some (.slice A rs.length c) ∧ w'.cell? ⟨w.heap.size, 1, none⟩ = some (.int .i64 e) ∧ w'.cell? ⟨w.heap.size + 1, 0, none⟩ = some (.slice B rs'.length d) ∧ w'.cell? ⟨w.heap.size + 1, 1, none⟩ = some (.int .i64 e') ∧ w'.cell? ⟨g4, 0, none⟩ = some (.slice A4 Rs.length c4) ∧ w'.cell? ⟨g4, 1, none⟩ = some (.int .i64 Re) ∧ w'.cell? ⟨w5.heap.size, 0, none⟩ = some (.slice A5 rs.length c5) ∧ w'.cell? ⟨w5.heap.size, 1, none⟩ = some (.int .i64 e) ∧ w'.cell? ⟨w6.heap.size, 0, none⟩ = some (.slice A6 rs'.length c6) ∧ w'.cell? ⟨w6.heap.size, 1, none⟩ = some (.int .i64 e') ∧ w'.cell? ⟨w7.heap.size, 0, none⟩ = some (.slice A7 Rs.length c7) ∧ w'.cell? ⟨w7.heap.size, 1, none⟩ = some (.int .i64 Re)) (simp [go_sem, *])
          (first
           | (go_at_call 16; refine (HT1.out _ _ _ ((HR.out.below (show Below w.heap.size w _ from below_via H8 (by go_grown))).more (by (try simp); omega))).mono ?_; rintro e w9 ⟨A9, c9, qs9, rfl, e9, o9, p9, b9⟩; have R9 := Lib.hid (o9.rd); rw [e9] at R9; clear o9 p9 e9; have MX9 := Lib.hid (MX8.out.via (by go_grown) b9); have MY9 := Lib.hid (MY8.out.via (by go_grown) b9); have MG9 := Lib.hid (MG8.out.via (by go_grown) b9); have KW9 := below_via KW8 (below_via (by go_grown) b9); obtain ⟨gc9, gf9⟩ := below_get b9; (try simp only [heap_drew, World.size_alloc, World.size_setCell] at gc9 gf9); have s9 := below_via (w := w8) (by go_grown) b9; have H9 := below_via H8 s9; have hs9 := b9.size; (try simp at hs9); have z9_0 : w.heap.size < w9.heap.size := (by omega); have z9_1 : w.heap.size + 1 < w9.heap.size := (by omega); have z9_2 : g4 < w9.heap.size := (by omega); have z9_3 : w5.heap.size < w9.heap.size := (by omega); have z9_4 : w6.heap.size < w9.heap.size := (by omega); have z9_5 : w7.heap.size < w9.heap.size := (by omega); clear b9)
           | (go_at_call 18; refine (eqPolicy_c A5 A9 _ c5 _ c9 rs rs e e _ (OP.rdX (O5.out.mid MX9.out (Nat.le_refl _) (Nat.le_refl _) (by go_grown)) E5.out) (R9.out.upB (by go_grown) (by go_size)) hn hn).mono ?_; rintro e w10 ⟨rfl, b10⟩; have MX10 := Lib.hid (MX9.out.via (by go_grown) b10); have MY10 := Lib.hid (MY9.out.via (by go_grown) b10); have MG10 := Lib.hid (MG9.out.via (by go_grown) b10); have KW10 := below_via KW9 (below_via (by go_grown) b10); obtain ⟨gc10, gf10⟩ := below_get b10; (try simp only [heap_drew, World.size_alloc, World.size_setCell] at gc10 gf10); have s10 := below_via (w := w9) (by go_grown) b10; have H10 := below_via H9 s10; have hs10 := b10.size; (try simp at hs10); have z10_0 : w.heap.size < w10.heap.size := (by omega); have z10_1 : w.heap.size + 1 < w10.heap.size := (by omega); have z10_2 : g4 < w10.heap.size := (by omega); have z10_3 : w5.heap.size < w10.heap.size := (by omega); have z10_4 : w6.heap.size < w10.heap.size := (by omega); have z10_5 : w7.heap.size < w10.heap.size := (by omega); clear b10))
        go_wp2_with fail
        go_region_held3 (fun w' => w'.cell? ⟨w.heap.size, 0, none⟩ = some (.slice A rs.length c) ∧ w'.cell? ⟨w.heap.size, 1, none⟩ = some (.int .i64 e) ∧ w'.cell? ⟨w.heap.size + 1, 0, none⟩ = some (.slice B rs'.length d) ∧ w'.cell? ⟨w.heap.size + 1, 1, none⟩ = some (.int .i64 e') ∧ w'.cell? ⟨g4, 0, none⟩ = some (.slice A4 Rs.length c4) ∧ w'.cell? ⟨g4, 1, none⟩ = some (.int .i64 Re) ∧ w'.cell? ⟨w5.heap.size, 0, none⟩ = some (.slice A5 rs.length c5) ∧ w'.cell? ⟨w5.heap.size, 1, none⟩ = some (.int .i64 e) ∧ w'.cell? ⟨w6.heap.size, 0, none⟩ = some (.slice A6 rs'.length c6) ∧ w'.cell? ⟨w6.heap.size, 1, none⟩ = some (.int .i64 e') ∧ w'.cell? ⟨w7.heap.size, 0, none⟩ = some (.slice A7 Rs.length c7) ∧ w'.cell? ⟨w7.heap.size, 1, none⟩ = some (.int .i64 Re)) (simp [go_sem, *])
          (first
           | (go_at_call 16; refine (HT2.out _ _ _ ((HQ.out.below (show Below w.heap.size w _ from below_via H10 (by go_grown))).more (by (try simp); omega))).mono ?_; rintro e w11 ⟨A11, c11, qs11, rfl, e11, o11, p11, b11⟩; have R11 := Lib.hid (o11.rd); rw [e11] at R11; clear o11 p11 e11; have MX11 := Lib.hid (MX10.out.via (by go_grown) b11); have MY11 := Lib.hid (MY10.out.via (by go_grown) b11); have MG11 := Lib.hid (MG10.out.via (by go_grown) b11); have KW11 := below_via KW10 (below_via (by go_grown) b11); obtain ⟨gc11, gf11⟩ := below_get b11; (try simp only [heap_drew, World.size_alloc, World.size_setCell] at gc11 gf11); have s11 := below_via (w := w10) (by go_grown) b11; have H11 := below_via H10 s11; have hs11 := b11.size; (try simp at hs11); have z11_0 : w.heap.size < w11.heap.size := (by omega); have z11_1 : w.heap.size + 1 < w11.heap.size := (by omega); have z11_2 : g4 < w11.heap.size := (by omega); have z11_3 : w5.heap.size < w11.heap.size := (by omega); have z11_4 : w6.heap.size < w11.heap.size := (by omega); have z11_5 : w7.heap.size < w11.heap.size := (by omega); clear b11)
           | (go_at_call 18; refine (eqPolicy_c A6 A11 _ c6 _ c11 rs' rs' e' e' _ (OP.rdX (O6.out.mid MY11.out (Nat.le_refl _) (Nat.le_refl _) (by go_grown)) E6.out) (R11.out.upB (by go_grown) (by go_size)) hm hm).mono ?_; rintro e w12 ⟨rfl, b12⟩; have MX12 := Lib.hid (MX11.out.via (by go_grown) b12); have MY12 := Lib.hid (MY11.out.via (by go_grown) b12); have MG12 := Lib.hid (MG11.out.via (by go_grown) b12); have KW12 := below_via KW11 (below_via (by go_grown) b12); obtain ⟨gc12, gf12⟩ := below_get b12; (try simp only [heap_drew, World.size_alloc, World.size_setCell] at gc12 gf12); have s12 := below_via (w := w11) (by go_grown) b12; have H12 := below_via H11 s12; have hs12 := b12.size; (try simp at hs12); have z12_0 : w.heap.size < w12.heap.size := (by omega); have z12_1 : w.heap.size + 1 < w12.heap.size := (by omega); have z12_2 : g4 < w12.heap.size := (by omega); have z12_3 : w5.heap.size < w12.heap.size := (by omega); have z12_4 : w6.heap.size < w12.heap.size := (by omega); have z12_5 : w7.heap.size < w12.heap.size := (by omega); clear b12))
        have hc5 : cnt qs5 ≤ 4194304 := by have := cnt_of E5.out; omega
        have hc6 : cnt qs6 ≤ 4194304 := by have := cnt_of E6.out; omega
        have hc7 := few_cnt E7.out HF.out
        (go_wp2_with fail); (go_at_call 30; refine (markPolicy_c w4.heap.size w5.heap.size A5 _ c5 e 1 qs5 _ (O5.out.mid MX12.out (Nat.le_refl _) (Nat.le_refl _) (by go_grown)) P5.out (by (try simp) <;> omega) (by omega) (by omega)).mono ?_; rintro e w13 ⟨rfl, o13, b13⟩; have MY13 := Lib.hid (MY12.out.viaK (by go_grown) b13 (fun t h1 h2 => by omega)); have MG13 := Lib.hid (MG12.out.viaK (by go_grown) b13 (fun t h1 h2 => by omega)); have KW13 := below_mark KW12 (by go_grown) b13 (by omega); have hs13 := b13.size; (try simp at hs13); have H13 := below_mark H12 (by go_grown) b13 (by omega); have gc13_0 := fun o => keep_cell b13 (b := w.heap.size) (o := o) (by (try simp); omega) (by omega); have z13_0 : w.heap.size < w13.heap.size := (by omega); have gc13_1 := fun o => keep_cell b13 (b := w.heap.size + 1) (o := o) (by (try simp); omega) (by omega); have z13_1 : w.heap.size + 1 < w13.heap.size := (by omega); have gc13_2 := fun o => keep_cell b13 (b := g4) (o := o) (by (try simp); omega) (by omega); have z13_2 : g4 < w13.heap.size := (by omega); have gc13_3 := fun o => keep_cell b13 (b := w6.heap.size) (o := o) (by (try simp); omega) (by omega); have z13_3 : w6.heap.size < w13.heap.size := (by omega); have gc13_4 := fun o => keep_cell b13 (b := w7.heap.size) (o := o) (by (try simp); omega) (by omega); have z13_4 : w7.heap.size < w13.heap.size := (by omega); clear b13; clear o13 MX12)
        (go_wp2_with fail); (go_at_call 30; refine (markPolicy_c (w5.heap.size + 1) w6.heap.size A6 _ c6 e' (1 + (cnt qs5 : Int)) qs6 _ (O6.out.mid MY13.out (Nat.le_refl _) (Nat.le_refl _) (by go_grown)) P6.out (by (try simp) <;> omega) (by omega) (by omega)).mono ?_; rintro e w14 ⟨rfl, o14, b14⟩; have MG14 := Lib.hid (MG13.out.viaK (by go_grown) b14 (fun t h1 h2 => by omega)); have KW14 := below_mark KW13 (by go_grown) b14 (by omega); have hs14 := b14.size; (try simp at hs14); have H14 := below_mark H13 (by go_grown) b14 (by omega); have gc14_0 := fun o => keep_cell b14 (b := w.heap.size) (o := o) (by (try simp); omega) (by omega); have z14_0 : w.heap.size < w14.heap.size := (by omega); have gc14_1 := fun o => keep_cell b14 (b := w.heap.size + 1) (o := o) (by (try simp); omega) (by omega); have z14_1 : w.heap.size + 1 < w14.heap.size := (by omega); have gc14_2 := fun o => keep_cell b14 (b := g4) (o := o) (by (try simp); omega) (by omega); have z14_2 : g4 < w14.heap.size := (by omega); have gc14_3 := fun o => keep_cell b14 (b := w7.heap.size) (o := o) (by (try simp); omega) (by omega); have z14_3 : w7.heap.size < w14.heap.size := (by omega); clear b14; clear o14 MY13)
        have hk0 : ¬ 1 + (cnt qs5 : Int) + (cnt qs6 : Int) < 0 := by omega
        (go_wp2_with fail); (go_at_call 18; refine (eqPolicy_c A7 A4 _ c7 _ c4 Rs Rs Re Re _ (OP.rdX (O7.out.mid MG14.out (Nat.le_refl _) (Nat.le_refl _) (by go_grown)) E7.out) ((R4.out.below (show Below _ _ _ from below_via KW14 (by go_grown))).more (by (try simp); omega)) (by omega) (by omega)).mono ?_; rintro e w15 ⟨rfl, b15⟩; have MG15 := Lib.hid (MG14.out.via (by go_grown) b15); have KW15 := below_via KW14 (below_via (by go_grown) b15); obtain ⟨gc15, gf15⟩ := below_get b15; (try simp only [heap_drew, World.size_alloc, World.size_setCell] at gc15 gf15); have s15 := below_via (w := w14) (by go_grown) b15; have H15 := below_via H14 s15; have hs15 := b15.size; (try simp at hs15); have z15_0 : w.heap.size < w15.heap.size := (by omega); have z15_1 : w.heap.size + 1 < w15.heap.size := (by omega); have z15_2 : g4 < w15.heap.size := (by omega); have z15_3 : w7.heap.size < w15.heap.size := (by omega); clear b15)
        (go_wp2_with fail); (go_at_call 30; refine (markPolicy_c (w6.heap.size + 1) w7.heap.size A7 _ c7 Re 1 qs7 _ (O7.out.mid MG15.out (Nat.le_refl _) (Nat.le_refl _) (by go_grown)) P7.out (by (try simp) <;> omega) (by omega) (by omega)).mono ?_; rintro e w16 ⟨rfl, o16, b16⟩; have O16 := Lib.hid o16; have MG16 := Lib.hid (Mid.start (w6.heap.size + 1) w7.heap.size w16); have KW16 := below_mark KW15 (by go_grown) b16 (by omega); have hs16 := b16.size; (try simp at hs16); have H16 := below_mark H15 (by go_grown) b16 (by omega); have gc16_0 := fun o => keep_cell b16 (b := w.heap.size) (o := o) (by (try simp); omega) (by omega); have z16_0 : w.heap.size < w16.heap.size := (by omega); have gc16_1 := fun o => keep_cell b16 (b := w.heap.size + 1) (o := o) (by (try simp); omega) (by omega); have z16_1 : w.heap.size + 1 < w16.heap.size := (by omega); have gc16_2 := fun o => keep_cell b16 (b := g4) (o := o) (by (try simp); omega) (by omega); have z16_2 : g4 < w16.heap.size := (by omega); have gc16_3 := fun o => keep_cell b16 (b := w7.heap.size) (o := o) (by (try simp); omega) (by omega); have z16_3 : w7.heap.size < w16.heap.size := (by omega); clear b16; clear o16 MG15)
        (go_wp2_with fail); (go_at_call 31; refine (heldPolicy_c A7 _ c7 Re 1 qs7 _ (OP.rd (O16.out.mid MG16.out (Nat.le_refl _) (Nat.le_refl _) (by go_grown))) (by omega) (by omega)).mono ?_; rintro e w17 ⟨rfl, b17⟩; have MG17 := Lib.hid (MG16.out.via (by go_grown) b17); have KW17 := below_via KW16 (below_via (by go_grown) b17); obtain ⟨gc17, gf17⟩ := below_get b17; (try simp only [heap_drew, World.size_alloc, World.size_setCell] at gc17 gf17); have s17 := below_via (w := w16) (by go_grown) b17; have H17 := below_via H16 s17; have hs17 := b17.size; (try simp at hs17); have z17_0 : w.heap.size < w17.heap.size := (by omega); have z17_1 : w.heap.size + 1 < w17.heap.size := (by omega); have z17_2 : g4 < w17.heap.size := (by omega); have z17_3 : w7.heap.size < w17.heap.size := (by omega); clear b17)
        go_upto_region 31 with (fail)
        have v170 : w17.cell? ⟨w.heap.size, 0, none⟩ = some (.slice A rs.length c) := by simp [go_sem, *]
        have v171 : w17.cell? ⟨w.heap.size, 1, none⟩ = some (.int .i64 e) := by simp [go_sem, *]
        have v172 : w17.cell? ⟨w.heap.size + 1, 0, none⟩ = some (.slice B rs'.length d) := by simp [go_sem, *]
        have v173 : w17.cell? ⟨w.heap.size + 1, 1, none⟩ = some (.int .i64 e') := by simp [go_sem, *]
        have v174 : w17.cell? ⟨g4, 0, none⟩ = some (.slice A4 Rs.length c4) := by simp [go_sem, *]
        have v175 : w17.cell? ⟨g4, 1, none⟩ = some (.int .i64 Re) := by simp [go_sem, *]
        have v176 : w17.cell? ⟨w7.heap.size, 0, none⟩ = some (.slice A7 Rs.length c7) := by simp [go_sem, *]
        have v177 : w17.cell? ⟨w7.heap.size, 1, none⟩ = some (.int .i64 Re) := by simp [go_sem, *]
        clear gc5 gc6 gc7 gc8 gc9 gc10 gc11 gc12 gc15 gc17 gc13_0 gc13_1 gc13_2 gc13_3 gc13_4 gc14_0 gc14_1 gc14_2 gc14_3 gc16_0 gc16_1 gc16_2 gc16_3 gf5 gf6 gf7 gf8 gf9 gf10 gf11 gf12 gf15 gf17 x40 x41 y40 y41 z40 z41
        have hb17 : w.heap.size + 1 < w17.heap.size := by omega
        have hb17g : g4 < w17.heap.size := by omega
        have hb17w : w7.heap.size < w17.heap.size := by omega
        go_cut [15, 16] (fun v15 v16 wx => v16 = .bool ok ∧ ∃ (g : Nat) (A20 : Option Addr) (c20 : Nat), v15 = .pointer (some ⟨g, 0, none⟩) ∧ w17.heap.size ≤ g ∧ Hid (Blk wx g 29 [.slice A20 Rs.length c20, .int .i64 Re]) ∧ Hid (RdR wx wx.heap.size A20 Rs.length Rs) ∧ Hid (Mid (w6.heap.size + 1) w7.heap.size w16 wx) ∧ Hid (Below w4.heap.size w4 wx) ∧ Hid (Below w.heap.size w wx) ∧ Hid (wx.cell? ⟨g4, 0, none⟩ = some (.slice A4 Rs.length c4)) ∧ Hid (wx.cell? ⟨g4, 1, none⟩ = some (.int .i64 Re)) ∧ Hid (wx.cell? ⟨w7.heap.size, 0, none⟩ = some (.slice A7 Rs.length c7)) ∧ Hid (wx.cell? ⟨w7.heap.size, 1, none⟩ = some (.int .i64 Re)))
        case first =>
          go_region_held3 (fun w' => w'.cell? ⟨w.heap.size, 0, none⟩ = some (.slice A rs.length c) ∧ w'.cell? ⟨w.heap.size, 1, none⟩ = some (.int .i64 e) ∧ w'.cell? ⟨w.heap.size + 1, 0, none⟩ = some (.slice B rs'.length d) ∧ w'.cell? ⟨w.heap.size + 1, 1, none⟩ = some (.int .i64 e')) (simp [go_sem, *])
            (first
             | (go_at_call_of 16 (Value.agg #[Value.slice A rs.length c, Value.int IntKind.i64 e]); refine (HT1.out _ _ _ ((HR.out.below (show Below w.heap.size w _ from below_via H17 (by go_grown))).more (by (try simp); omega))).mono ?_; rintro e w18 ⟨A18, c18, qs18, rfl, e18, o18, p18, b18⟩; have R18 := Lib.hid (o18.rd); rw [e18] at R18; clear o18 p18 e18; have BB18 := b18; obtain ⟨gc18, gf18⟩ := below_get b18; (try simp only [heap_drew, World.size_alloc, World.size_setCell] at gc18 gf18); have s18 := below_via (w := w17) (by go_grown) b18; have H18 := below_via H17 s18; have hs18 := b18.size; (try simp at hs18); have z18_0 : w.heap.size < w18.heap.size := (by omega); have z18_1 : w.heap.size + 1 < w18.heap.size := (by omega); have z18_2 : g4 < w18.heap.size := (by omega); have z18_3 : w7.heap.size < w18.heap.size := (by omega); clear b18; (try have zz18_1 : w17.heap.size < w18.heap.size := (by omega)))
             | (go_at_call_of 16 (Value.agg #[Value.slice B rs'.length d, Value.int IntKind.i64 e']); refine (HT2.out _ _ _ ((HQ.out.below (show Below w.heap.size w _ from below_via H18 (by go_grown))).more (by (try simp); omega))).mono ?_; rintro e w19 ⟨A19, c19, qs19, rfl, e19, o19, p19, b19⟩; have R19 := Lib.hid (o19.rd); rw [e19] at R19; clear o19 p19 e19; have BB19 := b19; obtain ⟨gc19, gf19⟩ := below_get b19; (try simp only [heap_drew, World.size_alloc, World.size_setCell] at gc19 gf19); have s19 := below_via (w := w18) (by go_grown) b19; have H19 := below_via H18 s19; have hs19 := b19.size; (try simp at hs19); have z19_0 : w.heap.size < w19.heap.size := (by omega); have z19_1 : w.heap.size + 1 < w19.heap.size := (by omega); have z19_2 : g4 < w19.heap.size := (by omega); have z19_3 : w7.heap.size < w19.heap.size := (by omega); clear b19; (try have zz19_1 : w17.heap.size < w19.heap.size := (by omega)); (try have zz19_2 : w18.heap.size < w19.heap.size := (by omega)))
             | (go_at_call 29; refine (HI.out _ _ _ _ _ ((R18.out.up s19).upB (by go_grown) (by go_size)) (R19.out.upB (by go_grown) (by go_size)) ((HP.out.below (show Below w.heap.size w _ from below_via H19 (by go_grown))).more (by (try simp); omega))).mono ?_; rintro e w20 ⟨A20, c20, qs20, rfl, e20, o20, p20, b20⟩; have O20 := Lib.hid o20; have E20 := Lib.hid e20; clear o20 p20 e20; have BB20 := b20; obtain ⟨gc20, gf20⟩ := below_get b20; (try simp only [heap_drew, World.size_alloc, World.size_setCell] at gc20 gf20); have s20 := below_via (w := w19) (by go_grown) b20; have H20 := below_via H19 s20; have hs20 := b20.size; (try simp at hs20); have z20_0 : w.heap.size < w20.heap.size := (by omega); have z20_1 : w.heap.size + 1 < w20.heap.size := (by omega); have z20_2 : g4 < w20.heap.size := (by omega); have z20_3 : w7.heap.size < w20.heap.size := (by omega); clear b20; (try have zz20_1 : w17.heap.size < w20.heap.size := (by omega)); (try have zz20_2 : w18.heap.size < w20.heap.size := (by omega)); (try have zz20_3 : w19.heap.size < w20.heap.size := (by omega))))
          all_goals
            have S20 := below_via (below_via s18 s19) s20
            have hne1 : g4 ≠ w17.heap.size := by omega
            have hne2 : w7.heap.size ≠ w17.heap.size := by omega
            have hne3 : g4 ≠ w18.heap.size := by omega
            have hne4 : w7.heap.size ≠ w18.heap.size := by omega
            have hne5 : g4 ≠ w19.heap.size := by omega
            have hne6 : w7.heap.size ≠ w19.heap.size := by omega
            have hnv1 : w20.cell? ⟨g4, 0, none⟩ = some (.slice A4 Rs.length c4) := (S20.cell (p := ⟨g4, 0, none⟩) hb17g).trans v174
            have hnv2 : w20.cell? ⟨g4, 1, none⟩ = some (.int .i64 Re) := (S20.cell (p := ⟨g4, 1, none⟩) hb17g).trans v175
            have hnv3 : w20.cell? ⟨w7.heap.size, 0, none⟩ = some (.slice A7 Rs.length c7) := (S20.cell (p := ⟨w7.heap.size, 0, none⟩) hb17w).trans v176
            have hnv4 : w20.cell? ⟨w7.heap.size, 1, none⟩ = some (.int .i64 Re) := (S20.cell (p := ⟨w7.heap.size, 1, none⟩) hb17w).trans v177
            go_wp2_with fail
            go_meet
            first
              | (exact ⟨rfl, w20.heap.size, A20, c20, rfl, by omega, Blk.new w20 29 [.slice A20 Rs.length c20, .int .i64 Re], Lib.hid (OP.rdX (O20.out.up (by go_grown)) E20.out), MG17.out.via (Below.refl _ _) (show Below w17.heap.size w17 _ from by go_grown), Lib.hid (below_via KW17 (show Below w17.heap.size w17 _ from by go_grown)), Lib.hid (below_via H17 (show Below w17.heap.size w17 _ from by go_grown)), by show World.cell? _ _ = _; simp [go_sem, *], by show World.cell? _ _ = _; simp [go_sem, *], by show World.cell? _ _ = _; simp [go_sem, *], by show World.cell? _ _ = _; simp [go_sem, *]⟩)
              | (have X8 := Lib.hid ((Blk.new w19 29 [.slice none 0 0, .int .i64 0]).up BB20)
                 exact ⟨rfl, w19.heap.size, A20, c20, rfl, by omega, (X8.out.set_ 0 _).set_ 1 _, Lib.hid (OP.rdX ((O20.out.set_ (o := 0) (.inl (by (try simp) <;> omega)) _).set_ (o := 1) (.inl (by (try simp) <;> omega)) _) E20.out), MG17.out.via (Below.refl _ _) (show Below w17.heap.size w17 _ from by go_grown), Lib.hid (below_via KW17 (show Below w17.heap.size w17 _ from by go_grown)), Lib.hid (below_via H17 (show Below w17.heap.size w17 _ from by go_grown)), by show World.cell? _ _ = _; simp [go_sem, *], by show World.cell? _ _ = _; simp [go_sem, *], by show World.cell? _ _ = _; simp [go_sem, *], by show World.cell? _ _ = _; simp [go_sem, *]⟩)
              | (have X8 := Lib.hid (((Blk.new w18 29 [.slice none 0 0, .int .i64 0]).up BB19).up s20)
                 exact ⟨rfl, w18.heap.size, A20, c20, rfl, by omega, (X8.out.set_ 0 _).set_ 1 _, Lib.hid (OP.rdX ((O20.out.set_ (o := 0) (.inl (by (try simp) <;> omega)) _).set_ (o := 1) (.inl (by (try simp) <;> omega)) _) E20.out), MG17.out.via (Below.refl _ _) (show Below w17.heap.size w17 _ from by go_grown), Lib.hid (below_via KW17 (show Below w17.heap.size w17 _ from by go_grown)), Lib.hid (below_via H17 (show Below w17.heap.size w17 _ from by go_grown)), by show World.cell? _ _ = _; simp [go_sem, *], by show World.cell? _ _ = _; simp [go_sem, *], by show World.cell? _ _ = _; simp [go_sem, *], by show World.cell? _ _ = _; simp [go_sem, *]⟩)
              | (have X8 := Lib.hid ((((Blk.new w17 29 [.slice none 0 0, .int .i64 0]).drew.up BB18).up s19).up s20)
                 exact ⟨rfl, w17.heap.size, A20, c20, rfl, by omega, (X8.out.set_ 0 _).set_ 1 _, Lib.hid (OP.rdX ((O20.out.set_ (o := 0) (.inl (by (try simp) <;> omega)) _).set_ (o := 1) (.inl (by (try simp) <;> omega)) _) E20.out), MG17.out.via (Below.refl _ _) (show Below w17.heap.size w17 _ from by go_grown), Lib.hid (below_via KW17 (show Below w17.heap.size w17 _ from by go_grown)), Lib.hid (below_via H17 (show Below w17.heap.size w17 _ from by go_grown)), by show World.cell? _ _ = _; simp [go_sem, *], by show World.cell? _ _ = _; simp [go_sem, *], by show World.cell? _ _ = _; simp [go_sem, *], by show World.cell? _ _ = _; simp [go_sem, *]⟩)
        case rest =>
          obtain ⟨rfl, g, A20, c20, rfl, hg, X20, R20, MG20, KW20', H20', q0, q1, q2, q3⟩ := hcut
          rename World => w20
          have KW20 := KW20'.out
          have H20 := H20'.out
          have x200 := X20.out.cell (i := 0) rfl
          have x201 := X20.out.cell (i := 1) rfl
          have x202 := q0.out
          have x203 := q1.out
          have x204 := q2.out
          have x205 := q3.out
          have z20_0 := X20.out.lt
          have z20_1 : g4 < w20.heap.size := by omega
          have z20_2 : w7.heap.size < w20.heap.size := by omega
          (go_wp2_with fail); (go_at_call 18; refine (eqPolicy_c A20 A4 _ c20 _ c4 Rs Rs Re Re _ (R20.out.up (by go_grown)) ((R4.out.below (show Below _ _ _ from below_via KW20 (by go_grown))).more (by (try simp); omega)) (by omega) (by omega)).mono ?_; rintro e w21 ⟨rfl, b21⟩; have MG21 := Lib.hid (MG20.out.via (by go_grown) b21); obtain ⟨gc21, gf21⟩ := below_get b21; (try simp only [heap_drew, World.size_alloc, World.size_setCell] at gc21 gf21); have s21 := below_via (w := w20) (by go_grown) b21; have H21 := below_via H20 s21; have hs21 := b21.size; (try simp at hs21); have z21_0 : g4 < w21.heap.size := (by omega); have z21_1 : w7.heap.size < w21.heap.size := (by omega); clear b21)
          (go_wp2_with fail); (go_at_call 31; refine (heldPolicy_c A7 _ c7 Re 1 qs7 _ (OP.rd (O16.out.mid MG21.out (Nat.le_refl _) (Nat.le_refl _) (by go_grown))) (by omega) (by omega)).mono ?_; rintro e w22 ⟨rfl, b22⟩; obtain ⟨gc22, gf22⟩ := below_get b22; (try simp only [heap_drew, World.size_alloc, World.size_setCell] at gc22 gf22); have s22 := below_via (w := w21) (by go_grown) b22; have H22 := below_via H21 s22; have hs22 := b22.size; (try simp at hs22); have z22_0 : g4 < w22.heap.size := (by omega); clear b22)
          go_wp2
          go_returns
          exact ⟨rfl, by go_grown⟩
    · have hS2 := fun W h => szPolicy_c B rs'.length d rs' e' L W h hm (by omega) (by omega)
      have hz : szV L (rs'.length + ruleN rs') < 0 := by simp [szV]; omega
      obtain ⟨L2, hL2⟩ : ∃ L2 : Int, szV L (rs'.length + ruleN rs') = L2 := ⟨_, rfl⟩
      rw [hL2] at hS2 hz
      have HS2 := Lib.hid hS2
      have hL0 : ¬ L < 0 := by omega
      clear hS2
      go_enter Tryd.func7, Tryd.ntmps7
      (go_wp2_with fail); (go_at_call 14; refine (HS1.out _ (HR.out.upB (by go_grown) (by go_size))).mono ?_; rintro e w0 ⟨rfl, b0⟩; obtain ⟨gc0, gf0⟩ := below_get b0; (try simp only [heap_drew, World.size_alloc, World.size_setCell] at gc0 gf0); have H0 := below_via (w := w) (by go_grown) b0; have hs0 := b0.size; (try simp at hs0); have z0_0 : w.heap.size < w0.heap.size := (by omega); have z0_1 : w.heap.size + 1 < w0.heap.size := (by omega); clear b0)
      (go_wp2_with fail); (go_at_call 14; refine (HS2.out _ ((HQ.out.below (show Below w.heap.size w _ from below_via H0 (by go_grown))).more (by (try simp); omega))).mono ?_; rintro e w1 ⟨rfl, b1⟩; have H1 := below_via H0 (below_via (by go_grown) b1); clear b1)
      go_wp2
      go_returns
      exact ⟨rfl, by go_grown⟩
  · go_enter Tryd.func7, Tryd.ntmps7
    (go_wp2_with fail); (go_at_call 14; refine (szPolicy_c A rs.length c rs e _ _ (HR.out.upB (by go_grown) (by go_size)) hn (by omega) (by omega)).mono ?_; rintro e w1 ⟨rfl, b1⟩; obtain ⟨gc1, gf1⟩ := below_get b1; (try simp only [heap_drew, World.size_alloc, World.size_setCell] at gc1 gf1); have s1 := below_via (w := w) (by go_grown) b1; have H1 := s1; have hs1 := b1.size; (try simp at hs1); have z1_0 : w.heap.size < w1.heap.size := (by omega); have z1_1 : w.heap.size + 1 < w1.heap.size := (by omega); clear b1)
    go_wp2
    · go_returns
      exact ⟨rfl, by go_grown⟩
    all_goals (exfalso; rename (0 ≤ szV _ _) => h; simp [szV] at h; split at h <;> omega)
theorem fnExactPolicyJoin_w (v0 v1 : Value) (w : World) (h0 : IsPolicy w v0) (h1 : IsPolicy w v1) (hK : PT w w.heap.size) : Calls Tryd.prog 7 #[v0, v1] w (RetB (.bool true) w) := by
  obtain ⟨A, n, c, rs, e, rfl, hr, hn⟩ := h0
  obtain ⟨B, m, d, rs', e', rfl, hq, hm⟩ := h1
  exact policyJoin_law A n c rs e B m d rs' e' w hr (by unfold maxLen at hn; omega) hq (by unfold maxLen at hm; omega) hK
set_option maxRecDepth 100000 in
theorem fnExactPolicyJoin_lifted (os : Os) (started : os.Started) (H : Type) (enc : TypeId × Value → H) :
    ReturnsInHanded {} Tryd.checked os 7 .any (fun w args => (Rows.fnExactPolicyJoinSpec.pre enc Tryd.prog Tryd.f7 [] false w args ∧ laidMetH Tryd.prog Rows.fnExactPolicyJoinRow.laid w) ∧ sizedMet enc Tryd.prog Tryd.f7 (OpenSpec.ofChange Rows.fnExactPolicyJoinSpec) false w args)
      (Rows.fnExactPolicyJoinSpec.post enc Tryd.prog Tryd.f7 false true false false) := by
  refine returnsInHanded_of_change_and (C := Tryd.checked) (X := fun w _ => laidMetH Tryd.prog Rows.fnExactPolicyJoinRow.laid w) (fun _ _ _ hh h => h.of_heap hh) own started (by kernel_rfl) Tryd.func7
    (ChangeSpec.witness_shaped (enc := enc) (C := Tryd.checked) (os := os) (X := fun w _ => laidMetH Tryd.prog Rows.fnExactPolicyJoinRow.laid w) false (World.doorLaid Tryd.prog 400 os) #[.agg #[.slice none 0 0, .int .i64 0], .agg #[.slice none 0 0, .int .i64 0]] 8 rfl (World.shaped_of_RefB (by kernel_rfl) (by kernel_rfl)) (by kernel_rfl) (by kernel_rfl) (by kernel_rfl) (laid_met os _)) ?_
  intro W base args ds gs before hval0 hW _ _ hL _
  have hval : ∀ (j : Nat) t v, Tryd.f7.params[j]? = some t → args[j]? = some v → Value.okWide Tryd.prog W .any base t v := hval0
  have hW' := hW
  obtain ⟨p, q, hA0, hV, rfl, hfz, hnd⟩ := hW
  have hA : DataW.TrodAll enc Tryd.prog W 0 (fun _ => true) true Tryd.f7.params.toList args.toList ds p := hA0
  rw [Tryd.params7] at hA hval
  obtain ⟨v0, vs0, d0, ds0, p0, q0, hargs, rfl, rfl, h0, r0⟩ := trodAll_cons hA
  obtain ⟨v1, vs1, d1, ds1, p1, q1, rfl, rfl, rfl, h1, r1⟩ := trodAll_cons r0
  obtain ⟨rfl, rfl, rfl⟩ := trodAll_nil r1
  obtain rfl : args = #[v0, v1] := by cases args; simp_all
  obtain ⟨rfl, rfl⟩ := trodVars_none hV
  have k0 := h0
  have lt0 : ∀ x ∈ p0, x.block < W.heap.size := by obtain ⟨m, hm⟩ := k0; exact DataW.trod_lt m _ _ _ hm
  have o0 := open_Policy (hval 0 24 v0 rfl rfl) h0
  have k1 := h1
  have lt1 : ∀ x ∈ p1, x.block < W.heap.size := by obtain ⟨m, hm⟩ := k1; exact DataW.trod_lt m _ _ _ hm
  have o1 := open_Policy (hval 1 24 v1 rfl rfl) h1
  clear hA0 hval0
  refine (fnExactPolicyJoin_w v0 v1 W o0 o1 (pt_of_laid hL)).mono fun e W' ⟨he, bel⟩ => ?_
  subst he
  exact ⟨_, rfl, _, _, _, [], _, [], hW', trodAll_mk1 (shut_bool Tryd.underlying4 _), (trodAll_cons_mk (Below.trod laidOut (by kernel_rfl) (of_decide_eq_true (by kernel_rfl)) k0 bel lt0) (trodAll_cons_mk (Below.trod laidOut (by kernel_rfl) (of_decide_eq_true (by kernel_rfl)) k1 bel lt1) trodAll_mk0)), rfl, bel.frame _, fun h => by cases h⟩

theorem fnExactPolicyJoin_holds : Rows.FnExactPolicyJoinSaid :=
  OpenClaim.holds_of_wide 7 Tryd.f7 rfl rfl rfl rfl rfl rfl rfl ⟨rfl, rfl, rfl, rfl, rfl⟩ rfl rfl rfl rfl rfl (by kernel_rfl) Tryd.func7 (by kernel_rfl)
    (of_decide_eq_true (by kernel_rfl)) (by unfold Func.isWrapper; rw [if_neg (of_decide_eq_false (by kernel_rfl))]; exact ⟨rfl, rfl⟩)
    (fun os started H enc _ => fnExactPolicyJoin_lifted os started H enc)
theorem fnExactPolicyJoin_card : Rows.FnExactPolicyJoinCardSaid :=
  Claim7.holds_tied_plain_at .later [] [.data, .data, .data] true (true, "1bec60d0faf7977a9d47a45710736ecb076b1668f732cd746a3417471cc71ec6") false
    fnExactPolicyJoin_holds (fun _ h => by cases h) (by kernel_rfl) (fun _ h => by cases h) fnExactPolicyJoin_row_tie rfl ⟨rfl, rfl⟩ (by kernel_rfl) rfl
    (fun f fn hf hfn => by
      obtain rfl : f = 7 := Option.some.inj ((show Tryd.prog.funcNamed "loop.example/gatelodge/laws.FnExactPolicyJoin" = some 7 by kernel_rfl).symm.trans hf) |>.symm
      obtain rfl : fn = Tryd.f7 := (Option.some.inj (Tryd.func7.symm.trans hfn)).symm
      exact ⟨by kernel_rfl, fun j t ht => by
        rw [Tryd.params7] at ht
        have hm : t ∈ [24, 24] := by simpa using Array.mem_of_getElem? ht
        have hall : ([24, 24].all fun u => !Tryd.prog.wantsStandIn u) = true := by kernel_rfl
        exact (show Tryd.prog.wantsStandIn t = false by simpa using List.all_eq_true.1 hall t hm)⟩)
    (by kernel_rfl)
#print axioms fnExactPolicyJoin_card
end Go.Proofs.YtcocagdbkpkkaaaDoor
