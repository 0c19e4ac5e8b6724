/- PolicyOnly of the program. Conditions: each contract's own. -/
import Derived.Test.YtljgaepgblakhaaDoorJFnPolicyOnly43
import Derived.Test.YtljgaepgblakhaaDoorCall
namespace Go.Proofs.YtljgaepgblakhaaDoor
set_option linter.unusedSimpArgs false
open Go.RowKit
set_option linter.unusedVariables false
set_option linter.unnecessarySimpa false
set_option maxRecDepth 20000
theorem policyOnly_n1 (A : Option Addr) (n c : Nat) (rs : List Rl) (e low high v : Int) (w : World) (hn : n ≤ 9223372036854775807) (hr : RdR w w.heap.size A n rs) (hp : PT w w.heap.size) (h1 : polOk ⟨rs, e⟩ = false) :
    Calls Tryd.prog 20 #[.agg #[.slice A n c, .int .i64 e], .int .i64 low, .int .i64 high, .int .i64 v] w (RetPolB 35 83 ⟨[], 0⟩ false w) := by
  have HR := Lib.hid hr
  have HP := Lib.hid hp
  have hO1 := fun W h h' => policyOk_c A n c rs e W h hn h'
  rw [h1] at hO1
  have HO1 := Lib.hid hO1
  clear hr hO1 h1 hp
  go_enter Tryd.func20, Tryd.ntmps20
  go_wp2_with (first
    | (go_at_call 17; refine (HO1.out _ (HR.out.upB (by go_grown) (by go_size)) ((HP.out.below (by go_grown)).more (by simp; omega))).mono ?_; rintro e w1 ⟨rfl, b1⟩; obtain ⟨gc1, gf1⟩ := below_get b1; (try simp only [heap_drew, World.size_alloc, World.size_setCell] at gc1 gf1); have s1 := below_via (w := w) (by go_grown) b1; have H1 := s1; have hs1 := b1.size; (try simp at hs1); have z1_0 : w.heap.size < w1.heap.size := (by omega); have z1_1 : w.heap.size + 1 < w1.heap.size := (by omega); clear b1)
    | (go_at_call 73; refine (wordOk_c _ _).mono ?_; rintro e w' ⟨rfl, rfl⟩)
    | (go_at_call 74; refine (verdictOk_c _ _).mono ?_; rintro e w' ⟨rfl, rfl⟩))
  refine bodyPost_ret (v := .tuple #[.agg #[.slice none 0 0, .int .i64 0], .bool false]) (by simp [results, Tryd.results20, go_sem, gc1, z1_1]) rfl ?_
  go_light
  exact retPolB_no rfl (by go_grown)
theorem policyOnly_n2 (A : Option Addr) (n c : Nat) (rs : List Rl) (e low high v : Int) (w : World) (hn : n ≤ 9223372036854775807) (hr : RdR w w.heap.size A n rs) (hp : PT w w.heap.size) (h1 : polOk ⟨rs, e⟩ = true) (h2 : wordB low = false) :
    Calls Tryd.prog 20 #[.agg #[.slice A n c, .int .i64 e], .int .i64 low, .int .i64 high, .int .i64 v] w (RetPolB 35 83 ⟨[], 0⟩ false w) := by
  have HR := Lib.hid hr
  have HP := Lib.hid hp
  have hO1 := fun W h h' => policyOk_c A n c rs e W h hn h'
  rw [h1] at hO1
  have HO1 := Lib.hid hO1
  clear hr hO1 h1 hp
  go_enter Tryd.func20, Tryd.ntmps20
  go_wp2_with (first
    | (go_at_call 17; refine (HO1.out _ (HR.out.upB (by go_grown) (by go_size)) ((HP.out.below (by go_grown)).more (by simp; omega))).mono ?_; rintro e w1 ⟨rfl, b1⟩; obtain ⟨gc1, gf1⟩ := below_get b1; (try simp only [heap_drew, World.size_alloc, World.size_setCell] at gc1 gf1); have s1 := below_via (w := w) (by go_grown) b1; have H1 := s1; have hs1 := b1.size; (try simp at hs1); have z1_0 : w.heap.size < w1.heap.size := (by omega); have z1_1 : w.heap.size + 1 < w1.heap.size := (by omega); clear b1)
    | (go_at_call 73; refine (wordOk_c _ _).mono ?_; rintro e w' ⟨rfl, rfl⟩)
    | (go_at_call 74; refine (verdictOk_c _ _).mono ?_; rintro e w' ⟨rfl, rfl⟩))
  refine bodyPost_ret (v := .tuple #[.agg #[.slice none 0 0, .int .i64 0], .bool false]) (by simp [results, Tryd.results20, go_sem, gc1, z1_1]) rfl ?_
  go_light
  exact retPolB_no rfl (by go_grown)
theorem policyOnly_n3 (A : Option Addr) (n c : Nat) (rs : List Rl) (e low high v : Int) (w : World) (hn : n ≤ 9223372036854775807) (hr : RdR w w.heap.size A n rs) (hp : PT w w.heap.size) (h1 : polOk ⟨rs, e⟩ = true) (h2 : wordB low = true) (h3 : wordB high = false) :
    Calls Tryd.prog 20 #[.agg #[.slice A n c, .int .i64 e], .int .i64 low, .int .i64 high, .int .i64 v] w (RetPolB 35 83 ⟨[], 0⟩ false w) := by
  have HR := Lib.hid hr
  have HP := Lib.hid hp
  have hO1 := fun W h h' => policyOk_c A n c rs e W h hn h'
  rw [h1] at hO1
  have HO1 := Lib.hid hO1
  clear hr hO1 h1 hp
  go_enter Tryd.func20, Tryd.ntmps20
  go_wp2_with (first
    | (go_at_call 17; refine (HO1.out _ (HR.out.upB (by go_grown) (by go_size)) ((HP.out.below (by go_grown)).more (by simp; omega))).mono ?_; rintro e w1 ⟨rfl, b1⟩; obtain ⟨gc1, gf1⟩ := below_get b1; (try simp only [heap_drew, World.size_alloc, World.size_setCell] at gc1 gf1); have s1 := below_via (w := w) (by go_grown) b1; have H1 := s1; have hs1 := b1.size; (try simp at hs1); have z1_0 : w.heap.size < w1.heap.size := (by omega); have z1_1 : w.heap.size + 1 < w1.heap.size := (by omega); clear b1)
    | (go_at_call 73; refine (wordOk_c _ _).mono ?_; rintro e w' ⟨rfl, rfl⟩)
    | (go_at_call 74; refine (verdictOk_c _ _).mono ?_; rintro e w' ⟨rfl, rfl⟩))
  refine bodyPost_ret (v := .tuple #[.agg #[.slice none 0 0, .int .i64 0], .bool false]) (by simp [results, Tryd.results20, go_sem, gc1, z1_1]) rfl ?_
  go_light
  exact retPolB_no rfl (by go_grown)
theorem policyOnly_n4 (A : Option Addr) (n c : Nat) (rs : List Rl) (e low high v : Int) (w : World) (hn : n ≤ 9223372036854775807) (hr : RdR w w.heap.size A n rs) (hp : PT w w.heap.size) (h1 : polOk ⟨rs, e⟩ = true) (h2 : wordB low = true) (h3 : wordB high = true) (h4 : high < low) :
    Calls Tryd.prog 20 #[.agg #[.slice A n c, .int .i64 e], .int .i64 low, .int .i64 high, .int .i64 v] w (RetPolB 35 83 ⟨[], 0⟩ false w) := by
  have HR := Lib.hid hr
  have HP := Lib.hid hp
  have hO1 := fun W h h' => policyOk_c A n c rs e W h hn h'
  rw [h1] at hO1
  have HO1 := Lib.hid hO1
  clear hr hO1 h1 hp
  go_enter Tryd.func20, Tryd.ntmps20
  go_wp2_with (first
    | (go_at_call 17; refine (HO1.out _ (HR.out.upB (by go_grown) (by go_size)) ((HP.out.below (by go_grown)).more (by simp; omega))).mono ?_; rintro e w1 ⟨rfl, b1⟩; obtain ⟨gc1, gf1⟩ := below_get b1; (try simp only [heap_drew, World.size_alloc, World.size_setCell] at gc1 gf1); have s1 := below_via (w := w) (by go_grown) b1; have H1 := s1; have hs1 := b1.size; (try simp at hs1); have z1_0 : w.heap.size < w1.heap.size := (by omega); have z1_1 : w.heap.size + 1 < w1.heap.size := (by omega); clear b1)
    | (go_at_call 73; refine (wordOk_c _ _).mono ?_; rintro e w' ⟨rfl, rfl⟩)
    | (go_at_call 74; refine (verdictOk_c _ _).mono ?_; rintro e w' ⟨rfl, rfl⟩))
  refine bodyPost_ret (v := .tuple #[.agg #[.slice none 0 0, .int .i64 0], .bool false]) (by simp [results, Tryd.results20, go_sem, gc1, z1_1]) rfl ?_
  go_light
  exact retPolB_no rfl (by go_grown)
theorem policyOnly_n5 (A : Option Addr) (n c : Nat) (rs : List Rl) (e low high v : Int) (w : World) (hn : n ≤ 9223372036854775807) (hr : RdR w w.heap.size A n rs) (hp : PT w w.heap.size) (h1 : polOk ⟨rs, e⟩ = true) (h2 : wordB low = true) (h3 : wordB high = true) (h4 : ¬ high < low) (h5 : verB v = false) :
    Calls Tryd.prog 20 #[.agg #[.slice A n c, .int .i64 e], .int .i64 low, .int .i64 high, .int .i64 v] w (RetPolB 35 83 ⟨[], 0⟩ false w) := by
  have HR := Lib.hid hr
  have HP := Lib.hid hp
  have hO1 := fun W h h' => policyOk_c A n c rs e W h hn h'
  rw [h1] at hO1
  have HO1 := Lib.hid hO1
  clear hr hO1 h1 hp
  go_enter Tryd.func20, Tryd.ntmps20
  go_wp2_with (first
    | (go_at_call 17; refine (HO1.out _ (HR.out.upB (by go_grown) (by go_size)) ((HP.out.below (by go_grown)).more (by simp; omega))).mono ?_; rintro e w1 ⟨rfl, b1⟩; obtain ⟨gc1, gf1⟩ := below_get b1; (try simp only [heap_drew, World.size_alloc, World.size_setCell] at gc1 gf1); have s1 := below_via (w := w) (by go_grown) b1; have H1 := s1; have hs1 := b1.size; (try simp at hs1); have z1_0 : w.heap.size < w1.heap.size := (by omega); have z1_1 : w.heap.size + 1 < w1.heap.size := (by omega); clear b1)
    | (go_at_call 73; refine (wordOk_c _ _).mono ?_; rintro e w' ⟨rfl, rfl⟩)
    | (go_at_call 74; refine (verdictOk_c _ _).mono ?_; rintro e w' ⟨rfl, rfl⟩))
  refine bodyPost_ret (v := .tuple #[.agg #[.slice none 0 0, .int .i64 0], .bool false]) (by simp [results, Tryd.results20, go_sem, gc1, z1_1]) rfl ?_
  go_light
  exact retPolB_no rfl (by go_grown)
set_option maxHeartbeats 4000000 in
theorem policyOnly_yes (A : Option Addr) (n c : Nat) (rs : List Rl) (e low high v : Int) (w : World) (hn : n ≤ 9223372036854775807) (hr : RdR w w.heap.size A n rs) (hp : PT w w.heap.size) (h1 : polOk ⟨rs, e⟩ = true) (hlo : wordB low = true) (hhi : wordB high = true) (hlh : low ≤ high) (hv : verB v = true) (ok : Bool) (h3 : polOk (onlyQ ⟨rs, e⟩ low high v) = ok) :
    Calls Tryd.prog 20 #[.agg #[.slice A n c, .int .i64 e], .int .i64 low, .int .i64 high, .int .i64 v] w (RetIfB 35 83 ok (onlyQ ⟨rs, e⟩ low high v) w) := by
  obtain ⟨i0, hi0, hz0, hz1, hz2⟩ := info_parts info_rule
  have hl1 := hr.1
  subst hl1
  have HR := Lib.hid hr
  have HP := Lib.hid hp
  have hA8 := (polOk_rules h1).1
  have hO1 := fun W h h' => policyOk_c A rs.length c rs e W h hn h'
  have hO3 := fun A n c W hn h h' => okPolicy_c A n c (lowR low v ++ highR high v ++ rs) e W hn h h' ok h3
  rw [h1] at hO1
  obtain ⟨l0, l1⟩ := wordB_in hlo
  obtain ⟨u0, u1⟩ := wordB_in hhi
  have hlh' : ¬ high < low := by omega
  have HO1 := Lib.hid hO1
  have HC1 := Lib.hid (fun W h => copyRules_c A rs.length c rs W h (by omega) (fun r hr => by have := polOk_ts h1 r hr; omega))
  have HO3 := Lib.hid hO3
  have HB0 := Lib.hid (blk_two w 25 25 [.slice A rs.length c, .int .i64 e] [.slice none 0 0, .int .i64 0])
  clear hr hp hO1 hO3 h1 h3
  go_enter Tryd.func20, Tryd.ntmps20
  go_upto_if 36 with (first
      | (go_at_call 17; refine (HO1.out _ (HR.out.upB (by go_grown) (by go_size)) ((HP.out.below (by go_grown)).more (by simp; omega))).mono ?_; rintro e w1 ⟨rfl, b1⟩; have B0 := Lib.hid (HB0.out.1.up b1); have B1 := Lib.hid (HB0.out.2.up b1); obtain ⟨gc1, gf1⟩ := below_get b1; (try simp only [heap_drew, World.size_alloc, World.size_setCell] at gc1 gf1); have s1 := below_via (w := w) (by go_grown) b1; have H1 := s1; have hs1 := b1.size; (try simp at hs1); have z1_0 : w.heap.size < w1.heap.size := (by omega); have z1_1 : w.heap.size + 1 < w1.heap.size := (by omega); clear b1)
      | (go_at_call 73; refine (wordOk_c _ _).mono ?_; rintro e w' ⟨rfl, rfl⟩)
      | (go_at_call 74; refine (verdictOk_c _ _).mono ?_; rintro e w' ⟨rfl, rfl⟩))
  go_cut [10, 36] (fun v10 v36 wx => v36 = .bool (decide (0 < low)) ∧ ∃ (n1 : Nat) (A1 : Option Addr) (c1 : Nat) (qs1 : List (Rl × Value)), v10 = .slice A1 n1 c1 ∧ n1 ≤ 1 ∧ Hid (OP wx w1.heap.size wx.heap.size 35 83 A1 n1 c1 qs1) ∧ Hid (rls qs1 = lowR low v) ∧ Hid (Apart qs1) ∧ Hid (Blk wx w.heap.size 25 [.slice A rs.length c, .int .i64 e]) ∧ Hid (Blk wx (w.heap.size + 1) 25 [.slice none 0 0, .int .i64 0]) ∧ Hid (Below w.heap.size w wx) ∧ w1.heap.size ≤ wx.heap.size)
  case first =>
    by_cases hlw : 0 < low
    · have hwr : IntKind.i64.wrap (low - 1) = low - 1 := by rw [IntKind.wrap_i64]; omega
      have he : lowR low v = [⟨v, 0, low - 1, []⟩] := by simp [lowR, hlw]
      go_wp2_with (at_builtin; refine wpList_append_rd _ rfl _ _ 23 rfl (w1.heap.size) 35 i0 _ 4 48 Tryd.underlying23 hi0 hz0 hz1 hz2 rfl (by omega) (.slice none 0 0) 0 (rcells []) rfl (World.ownsRow_nil _ _ _ _) _ (some ⟨w1.heap.size, 0, none⟩) 1 1 (rcells [((⟨v, 0, low - 1, []⟩ : Rl), .slice none 0 0)]) rfl (rd_new (by simp) 35 4 1 _ rfl) (one_rcells (w := w) (lo := 0) (hi := 0) (ET := 83) (fun q hq => by rw [List.mem_singleton.1 hq]; exact to_none _ _ _ _ _ _ _)) (by unfold maxLen; omega) (by omega) (by (try simp) <;> omega) ?_; intro A2 c2 w2 ho2 hg2 ha2; have hs2 := hg2.size; simp at hs2; have O2 := Lib.hid (OP.app (ET := 83) (hi := w1.heap.size + 1) (hi' := w2.heap.size) (OP.nil_ _ _ _ _ _) (by decide) (qs2 := [((⟨v, 0, low - 1, []⟩ : Rl), .slice none 0 0)]) (fun q hq => by rw [List.mem_singleton.1 hq]; exact to_none _ _ _ _ _ _ _) (by omega) ho2 hg2 (Nat.le_refl _)); have K0 := Lib.hid ((B0.out.alloc _).gn hg2 (fun e => by cases e)); have K1 := Lib.hid ((B1.out.alloc _).gn hg2 (fun e => by cases e)); have H2 := Lib.hid (below_app (below_via H1 (by go_grown)) hg2 (fun b e => by cases e) (Nat.le_refl _)); clear ho2 hg2 ha2)
      go_meet
      exact ⟨by simp [hlw], 1, A2, c2, _, rfl, by omega, O2, by rw [he]; exact rfl, apart_none Apart.nil_ _, K0, K1, H2, by (try simp) <;> omega⟩
    · have he : lowR low v = [] := by simp [lowR, hlw]
      go_wp2_with fail
      go_meet
      exact ⟨by simp [hlw], 0, none, 0, [], rfl, by omega, Lib.hid (OP.nil_ _ _ _ _ _), by rw [he]; exact rfl, Apart.nil_, B0, B1, Lib.hid H1, Nat.le_refl _⟩
  case rest =>
    clear B0 B1
    obtain ⟨rfl, n1, A1, c1, qs1, rfl, hn1, HO, HE, HA, B0, B1, HW, hz⟩ := hcut
    go_upto_if 45 with (fail)
    have hbs := HW.out.size
    go_cut [10, 45] (fun v10 v45 wx => v45 = .bool (decide (high < 4294967295)) ∧ ∃ (n1 : Nat) (A1 : Option Addr) (c1 : Nat) (qs1 : List (Rl × Value)), v10 = .slice A1 n1 c1 ∧ n1 ≤ 2 ∧ Hid (OP wx w1.heap.size wx.heap.size 35 83 A1 n1 c1 qs1) ∧ Hid (rls qs1 = lowR low v ++ highR high v) ∧ Hid (Apart qs1) ∧ Hid (Blk wx w.heap.size 25 [.slice A rs.length c, .int .i64 e]) ∧ Hid (Blk wx (w.heap.size + 1) 25 [.slice none 0 0, .int .i64 0]) ∧ Hid (Below w.heap.size w wx) ∧ w1.heap.size ≤ wx.heap.size)
    case first =>
      rename World => wx
      by_cases hhg : high < 4294967295
      · have hwr : IntKind.i64.wrap (high + 1) = high + 1 := by rw [IntKind.wrap_i64]; omega
        have he : highR high v = [⟨v, high + 1, 4294967295, []⟩] := by simp [highR, hhg]
        go_wp2_with (at_builtin; refine wpList_append_rd _ rfl _ _ 23 rfl (w1.heap.size) 35 i0 _ 4 48 Tryd.underlying23 hi0 hz0 hz1 hz2 rfl (by omega) (.slice A1 n1 c1) n1 (rcells qs1) rfl (OP.own (HO.out.up (by go_grown))) _ (some ⟨wx.heap.size, 0, none⟩) 1 1 (rcells [((⟨v, high + 1, 4294967295, []⟩ : Rl), .slice none 0 0)]) rfl (rd_new (by simp) 35 4 1 _ rfl) (one_rcells (w := w) (lo := 0) (hi := 0) (ET := 83) (fun q hq => by rw [List.mem_singleton.1 hq]; exact to_none _ _ _ _ _ _ _)) (by unfold maxLen; omega) (by omega) (by (try simp) <;> omega) ?_; intro A2 c2 w2 ho2 hg2 ha2; have hs2 := hg2.size; simp at hs2; have O2 := Lib.hid (OP.app (hi' := w2.heap.size) (HO.out.up (Below.alloc (Below.refl _ _) (Nat.le_refl _) _)) (by decide) (qs2 := [((⟨v, high + 1, 4294967295, []⟩ : Rl), .slice none 0 0)]) (fun q hq => by rw [List.mem_singleton.1 hq]; exact to_none _ _ _ _ _ _ _) (by omega) ho2 hg2 (Nat.le_refl _)); have hob : ∀ b, (Value.slice A1 n1 c1).ownBlock = some b → w1.heap.size ≤ b := (fun b e => (HO.out.own.lt b e).1); have K0 := Lib.hid ((B0.out.alloc _).gn hg2 (fun e => by have := hob _ e; omega)); have K1 := Lib.hid ((B1.out.alloc _).gn hg2 (fun e => by have := hob _ e; omega)); have H2 := Lib.hid (below_app (Below.alloc HW.out (by omega) _) hg2 (fun b e => by have := hob _ e; omega) (Nat.le_refl _)); clear ho2 hg2 ha2)
        go_meet
        exact ⟨by simp [hhg], n1 + 1, A2, c2, _, rfl, by omega, O2, by show _ = _; rw [he, rls_app, HE.out]; rfl, apart_none HA.out _, K0, K1, H2, by (try simp) <;> omega⟩
      · have he : highR high v = [] := by simp [highR, hhg]
        go_wp2_with fail
        go_meet
        exact ⟨by simp [hhg], n1, A1, c1, qs1, rfl, by omega, HO, by show _ = _; rw [he, List.append_nil]; exact HE.out, HA, B0, B1, HW, hz⟩
    case rest =>
      clear B0 B1 HO HE HA HW hz hn1 hbs
      obtain ⟨rfl, n2, A2, c2, qs2, rfl, hn2, HO, HE, HA, B0, B1, HW, hz⟩ := hcut
      have a0 := B0.out.cell (i := 0) rfl
      have a1 := B0.out.cell (i := 1) rfl
      have hbs := HW.out.size
      rename World => wx
      have hob : ∀ b, (Value.slice A2 n2 c2).ownBlock = some b → w1.heap.size ≤ b := fun b e => (HO.out.own.lt b e).1
      have HOB := Lib.hid hob
      clear hob
      have hrl : ∀ qs3, rls qs3 = rs → rls (qs2 ++ qs3) = lowR low v ++ highR high v ++ rs := fun qs3 e3 => by rw [rls_app, HE.out, e3]
      have HRL := Lib.hid hrl
      clear hrl
      go_wp2_with fail
      unfold RetIfB
      cases ok
      all_goals
        simp only [if_true, if_false, Bool.false_eq_true, ↓reduceIte] at HO3 ⊢
        go_region_held3 (fun w' => w'.cell? ⟨w.heap.size, 0, none⟩ = some (.slice A rs.length c) ∧ w'.cell? ⟨w.heap.size, 1, none⟩ = some (.int .i64 e)) (simp [go_sem, *])
          (first
            | (go_at_call 75; refine (HO3.out A5 (n2 + rs.length) c5 _ (by omega) (OP.rdE (R5.out.up (by go_grown)) (HRL.out _ e3)) (((HP.out.below (show Below w.heap.size w _ from below_via H5.out (by go_grown))).more (by (try simp) <;> omega)))).mono ?_; rintro e w6 ⟨rfl, b6⟩; have R6 := Lib.hid (R5.out.up (below_via (by go_grown) b6)); have Z6 := Lib.hid (Z5.out.up (below_via (by go_grown) b6)); have H6 := below_via H5.out (below_via (by go_grown) b6); have hs6 := b6.size; (try simp at hs6); have z60 := Z6.out.cell (i := 0) rfl; have z61 := Z6.out.cell (i := 1) rfl; have z6f := Z6.out.free; have Y6 := Lib.hid (Y5.out.up (below_via (by go_grown) b6)); have y60 := Y6.out.cell (i := 0) rfl; have y61 := Y6.out.cell (i := 1) rfl; clear b6)
            | (refine step_append_rd _ (by rfl) _ _ 23 (by rfl) w1.heap.size 35 i0 _ 4 48 Tryd.underlying23 hi0 hz0 hz1 hz2 rfl (by omega) (.slice A2 n2 c2) n2 (rcells qs2) (by rfl) (OP.own (R3.out.up (by go_grown))) w3.heap.size A3 rs.length c3 (rcells qs3) (by rfl) (Rd.below (Rd.of_own R4.out.own) (by go_grown)) (one_rcells R4.out.tst) (by unfold maxLen; omega) (by omega) (by (try simp) <;> omega) ?_; intro A5 c5 w5 h5 g5 a5; have hs5 := g5.size; (try simp at hs5); have H5 := Lib.hid (below_app (below_via H3.out (by go_grown)) g5 (fun b e => by have := HOB.out b e; omega) (Nat.le_refl _)); have R5 := Lib.hid (OP.app (R3.out.up (by go_grown)) (by decide) (hi' := w5.heap.size) (fun q hq => ((R4.out.tst q hq).up (by go_grown)).wide (by (try simp) <;> omega) (by (try simp) <;> omega)) (by (try simp) <;> omega) h5 g5 (Nat.le_refl _)); have P5 := Lib.hid (HA.out.app p3 (fun x hx y hy => apart_of (HO.out.tst x hx) (h3t.out y hy) (by (try simp) <;> omega))); have Z5 := Lib.hid ((Z3.out.up (by go_grown)).gn g5 (fun e => by have := HOB.out _ e; omega)); have Y5 := Lib.hid ((Y3.out.up (by go_grown)).gn g5 (fun e => by have := HOB.out _ e; omega)); have y50 := Y5.out.cell (i := 0) rfl; have y51 := Y5.out.cell (i := 1) rfl; clear h5 g5 a5)
            | (go_at_call 76; refine (HC1.out _ (((HR.out.below (show Below w.heap.size w _ from below_via HW.out (by go_grown))).more (by (try simp) <;> omega)))).mono ?_; rintro e w3 ⟨A3, c3, qs3, rfl, e3, o3, p3, b3⟩; have R4 := Lib.hid (o3.wide (show w1.heap.size ≤ _ by (try simp) <;> omega) (Nat.le_refl _)); have h3t := Lib.hid o3.tst; have R3 := Lib.hid (HO.out.up (below_via (by go_grown) b3)); have Z3 := Lib.hid (B1.out.up (below_via (by go_grown) b3)); have Y3 := Lib.hid (B0.out.up (below_via (by go_grown) b3)); have H3 := Lib.hid (below_via HW.out (below_via (by go_grown) b3)); have hs3 := b3.size; (try simp at hs3); have y30 := Y3.out.cell (i := 0) rfl; have y31 := Y3.out.cell (i := 1) rfl; clear b3 o3))
        go_wp2
        first
          | (refine bodyPost_ret (v := .tuple #[.agg #[.slice none 0 0, .int .i64 0], .bool false]) (by simp [results, Tryd.results20, go_sem, z60, z61, z6f]) rfl ?_; go_light; exact retPolB_no rfl (by go_grown))
          | (refine bodyPost_ret (v := .tuple #[.agg #[.slice A5 (n2 + rs.length) c5, .int .i64 e], .bool true]) (by simp [results, Tryd.results20, go_sem, z60, z61, z6f]) rfl ?_
             go_light
             have hq5 := HRL.out _ e3
             have hl9 : (lowR low v ++ highR high v ++ rs).length = n2 + rs.length := by
               have h1 := R5.out.len
               have h2 := congrArg List.length hq5
               rw [rls_len] at h2
               omega
             have RF := ((R6.out.set_ (g := w.heap.size + 1) (o := 0) (.inl (by omega)) (.slice A5 (n2 + rs.length) c5)).set_ (g := w.heap.size + 1) (o := 1) (.inl (by omega)) (.int .i64 e)).wide (lo' := w.heap.size) (hi' := w6.heap.size) (by omega) (by omega)
             refine ⟨A5, c5, qs2 ++ qs3, ?_, hq5, ?_, P5.out, by go_grown⟩
             · show Ending.returned (.tuple #[.agg #[.slice A5 (n2 + rs.length) c5, .int .i64 e], .bool true]) = .returned (.tuple #[.agg #[.slice A5 (lowR low v ++ highR high v ++ rs).length c5, .int .i64 e], .bool true])
               rw [hl9]
             · show OP _ _ _ _ _ _ (lowR low v ++ highR high v ++ rs).length _ _
               rw [hl9]
               simpa using RF)
theorem policyOnly_c (A : Option Addr) (n c : Nat) (rs : List Rl) (e low high v : Int) (w : World) (hn : n ≤ 9223372036854775807) (hr : RdR w w.heap.size A n rs) (hp : PT w w.heap.size) :
    Calls Tryd.prog 20 #[.agg #[.slice A n c, .int .i64 e], .int .i64 low, .int .i64 high, .int .i64 v] w (RetPolB 35 83 (onlyP ⟨rs, e⟩ low high v) (onlyB ⟨rs, e⟩ low high v) w) := by
  by_cases h : onlyA ⟨rs, e⟩ low high v = true
  · have h' := h
    simp only [onlyA, Bool.and_eq_true, decide_eq_true_eq] at h'
    have := policyOnly_yes A n c rs e low high v w hn hr hp h'.1.1.1.1 h'.1.1.1.2 h'.1.1.2 h'.1.2 h'.2 _ rfl
    rw [onlyP, onlyB, if_pos h, h, Bool.true_and]
    exact this
  · have hf : onlyA ⟨rs, e⟩ low high v = false := by simpa using h
    rw [onlyP, onlyB, if_neg h, hf, Bool.false_and]
    by_cases h1 : polOk ⟨rs, e⟩ = true
    · by_cases h2 : wordB low = true
      · by_cases h3 : wordB high = true
        · by_cases h4 : high < low
          · exact policyOnly_n4 A n c rs e low high v w hn hr hp h1 h2 h3 h4
          · refine policyOnly_n5 A n c rs e low high v w hn hr hp h1 h2 h3 h4 ?_
            have h5 : low ≤ high := by omega
            simpa [onlyA, h1, h2, h3, h5] using hf
        · exact policyOnly_n3 A n c rs e low high v w hn hr hp h1 h2 (by simpa using h3)
      · exact policyOnly_n2 A n c rs e low high v w hn hr hp h1 (by simpa using h2)
    · exact policyOnly_n1 A n c rs e low high v w hn hr hp (by simpa using h1)
end Go.Proofs.YtljgaepgblakhaaDoor
