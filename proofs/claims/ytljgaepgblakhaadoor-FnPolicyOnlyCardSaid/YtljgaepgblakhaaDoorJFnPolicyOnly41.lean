/- PolicyOnly of the reference. Conditions: each contract's own. -/
import Derived.Test.YtljgaepgblakhaaDoorJFnPolicyOnly32
import Derived.Deep.CutRange
namespace Go.Proofs.YtljgaepgblakhaaDoor
set_option linter.unusedSimpArgs false
open Go.RowKit
set_option linter.unusedVariables false
set_option linter.unnecessarySimpa false
set_option maxRecDepth 20000
/-- The rules that stand ahead: for lesser numbers, for greater ones. -/
def lowR (low v : Int) : List Rl := if 0 < low then [⟨v, 0, low - 1, []⟩] else []
def highR (high v : Int) : List Rl := if high < 4294967295 then [⟨v, high + 1, 4294967295, []⟩] else []
def onlyA (p : Pol) (low high v : Int) : Bool := polOk p && wordB low && wordB high && decide (low ≤ high) && verB v
def onlyQ (p : Pol) (low high v : Int) : Pol := ⟨lowR low v ++ highR high v ++ p.rs, p.els⟩
/-- What both sides make of a policy, numbers and a verdict. -/
def onlyP (p : Pol) (low high v : Int) : Pol := if onlyA p low high v then okP (onlyQ p low high v) else ⟨[], 0⟩
def onlyB (p : Pol) (low high v : Int) : Bool := onlyA p low high v && polOk (onlyQ p low high v)
theorem wordB_in {a : Int} (h : wordB a = true) : 0 ≤ a ∧ a ≤ 4294967295 := by simpa [wordB] using h
/-- The policy and true if it is one, else none. -/
def RetIfB (ER ET : Nat) (ok : Bool) (p : Pol) (w : World) : Ending → World → Prop := RetPolB ER ET (if ok then p else ⟨[], 0⟩) ok w
theorem to_none (w : World) (lo hi ET : Nat) (v l h : Int) : TO w lo hi ET (⟨v, l, h, []⟩, .slice none 0 0) := ⟨World.ownsRow_nil _ _ _ _, (fun g hg => by cases hg)⟩
theorem apart_none {qs : List (Rl × Value)} (h : Apart qs) (r : Rl) : Apart (qs ++ [(r, .slice none 0 0)]) := by
  intro i j q q' hij hq hq'
  by_cases hj : j < qs.length
  · rw [List.getElem?_append_left hj] at hq'
    rw [List.getElem?_append_left (by omega)] at hq
    exact h i j q q' hij hq hq'
  · have hjl := (List.getElem?_eq_some_iff.1 hq').1
    simp at hjl
    have : j = qs.length := by omega
    subst this
    rw [List.getElem?_append_right (Nat.le_refl _)] at hq'
    simp at hq'
    subst hq'
    by_cases hn : q.2.ownBlock = none
    · exact .inl hn
    · right
      intro e
      exact hn e
theorem OP.rdE {W : World} {lo hi ER ET n c : Nat} {A : Option Addr} {qs : List (Rl × Value)} {rs : List Rl} (h : OP W lo hi ER ET A n c qs) (e : rls qs = rs) : RdR W W.heap.size A n rs := e ▸ h.rd
theorem rls_one (r : Rl) (v : Value) : rls [(r, v)] = [r] := rfl
set_option maxHeartbeats 4000000 in
theorem specPolicyOnly_yes (A : Option Addr) (n c : Nat) (rs : List Rl) (e low high v : Int) (w : World) (hn : n ≤ 9223372036854775807) (hr : RdR w w.heap.size A n rs) (h1 : polOk ⟨rs, e⟩ = true) (hlo : wordB low = true) (hhi : wordB high = true) (hlh : low ≤ high) (hv : verB v = true) (ok : Bool) (h3 : polOk (onlyQ ⟨rs, e⟩ low high v) = ok) :
    Calls Tryd.prog 21 #[.agg #[.slice A n c, .int .i64 e], .int .i64 low, .int .i64 high, .int .i64 v] w (RetIfB 35 83 ok (onlyQ ⟨rs, e⟩ low high v) w) := by
  obtain ⟨i0, hi0, hz0, hz1, hz2⟩ := info_parts info_rule
  have hl1 := hr.1
  subst hl1
  have HR := Lib.hid hr
  have hA8 := (polOk_rules h1).1
  have hO1 := fun W h => specPolicyOk_c A rs.length c rs e W h hn
  have hO3 := fun A n c W h hn => specPolicyOk_c A n c (lowR low v ++ highR high v ++ rs) e W h hn
  rw [h1] at hO1
  rw [show polOk ⟨lowR low v ++ highR high v ++ rs, e⟩ = ok from h3] at hO3
  obtain ⟨l0, l1⟩ := wordB_in hlo
  obtain ⟨u0, u1⟩ := wordB_in hhi
  have va : decide (0 ≤ low ∧ low ≤ 4294967295) = true := by simp; omega
  have vb : decide (low ≤ high ∧ high ≤ 4294967295) = true := by simp; omega
  have vc : decide (1 ≤ v ∧ v ≤ 4) = true := hv
  have HO1 := Lib.hid hO1
  have HC1 := Lib.hid (fun W h => l2Copy_c A rs.length c rs e W h (by omega) (fun r hr => by have := polOk_ts h1 r hr; omega))
  have HO3 := Lib.hid hO3
  have HB0 := Lib.hid (blk_two w 25 25 [.slice A rs.length c, .int .i64 e] [.slice none 0 0, .int .i64 0])
  clear hr hO1 hO3 h1 h3 hv
  have hfl := field_pol
  go_enter Tryd.func21, Tryd.ntmps21
  go_upto_if 35 with (first
      | (go_at_call 18; refine (HO1.out _ (HR.out.upB (by go_grown) (by go_size))).mono ?_; rintro e w1 ⟨rfl, b1⟩; have B0 := Lib.hid (HB0.out.1.up b1); have B1 := Lib.hid (HB0.out.2.up b1); obtain ⟨gc1, gf1⟩ := below_get b1; (try simp only [heap_drew, World.size_alloc, World.size_setCell] at gc1 gf1); have s1 := below_via (w := w) (by go_grown) b1; have H1 := s1; have hs1 := b1.size; (try simp at hs1); have z1_0 : w.heap.size < w1.heap.size := (by omega); have z1_1 : w.heap.size + 1 < w1.heap.size := (by omega); clear b1)
      | (go_at_call 70; refine (l1In_c _ _ _ _).mono ?_; rintro e w' ⟨rfl, rfl⟩))
  have HX := Lib.hid (Blk.new w1 25 [.slice none 0 0, .int .i64 e])
  have x0 := HX.out.cell (i := 0) rfl
  have xf := HX.out.free
  go_cut [35] (fun v35 wx => v35 = .bool (decide (0 < low)) ∧ ∃ (n1 : Nat) (A1 : Option Addr) (c1 : Nat) (qs1 : List (Rl × Value)), n1 ≤ 1 ∧ Hid (Blk wx w1.heap.size 25 [.slice A1 n1 c1, .int .i64 e]) ∧ Hid (OP wx (w1.heap.size + 1) wx.heap.size 35 83 A1 n1 c1 qs1) ∧ Hid (rls qs1 = lowR low v) ∧ Hid (Apart qs1) ∧ Hid (Blk wx w.heap.size 25 [.slice A rs.length c, .int .i64 e]) ∧ Hid (Blk wx (w.heap.size + 1) 25 [.slice none 0 0, .int .i64 0]) ∧ Hid (Below w.heap.size w wx) ∧ w1.heap.size < wx.heap.size)
  case first =>
    by_cases hlw : 0 < low
    · have hwr : IntKind.i64.wrap (low - 1) = low - 1 := by rw [IntKind.wrap_i64]; omega
      have he : lowR low v = [⟨v, 0, low - 1, []⟩] := by simp [lowR, hlw]
      go_wp2_with (at_builtin; go_loud (refine wpList_append_rd _ rfl _ _ 23 rfl (w1.heap.size + 1) 35 i0 _ 4 48 Tryd.underlying23 hi0 hz0 hz1 hz2 rfl (by omega) (.slice none 0 0) 0 (rcells []) rfl (World.ownsRow_nil _ _ _ _) _ (some ⟨w1.heap.size + 1, 0, none⟩) 1 1 (rcells [((⟨v, 0, low - 1, []⟩ : Rl), .slice none 0 0)]) rfl (rd_new (by simp) 35 4 1 _ rfl) (one_rcells (w := w) (lo := 0) (hi := 0) (ET := 83) (fun q hq => by rw [List.mem_singleton.1 hq]; exact to_none _ _ _ _ _ _ _)) (by unfold maxLen; omega) (by omega) (by (try simp) <;> omega) ?_; intro A2 c2 w2 ho2 hg2 ha2; have hs2 := hg2.size; simp at hs2; have O2 := Lib.hid (OP.app (ET := 83) (hi := w1.heap.size + 1) (hi' := w2.heap.size) (OP.nil_ _ _ _ _ _) (by decide) (qs2 := [((⟨v, 0, low - 1, []⟩ : Rl), .slice none 0 0)]) (fun q hq => by rw [List.mem_singleton.1 hq]; exact to_none _ _ _ _ _ _ _) (by omega) ho2 hg2 (Nat.le_refl _)); have D2 := Lib.hid ((HX.out.alloc _).gn hg2 (fun e => by cases e)); have K0 := Lib.hid (((B0.out.alloc _).alloc _).gn hg2 (fun e => by cases e)); have K1 := Lib.hid (((B1.out.alloc _).alloc _).gn hg2 (fun e => by cases e)); have H2 := Lib.hid (below_app (below_via H1 (by go_grown)) hg2 (fun b e => by cases e) (Nat.le_refl _)); have y0 := D2.out.cell (i := 0) rfl; have yf := D2.out.free; clear ho2 hg2 ha2))
      go_meet
      exact ⟨by simp [hlw], 1, A2, c2, _, by omega, D2.out.set_ 0 _, Lib.hid ((O2.out.set_ (g := w1.heap.size) (o := 0) (.inl (by omega)) _).wide (Nat.le_refl _) (by simp)), by rw [he]; exact rfl, apart_none Apart.nil_ _, K0.out.far (by (try simp) <;> omega) _, K1.out.far (by (try simp) <;> omega) _, Lib.hid (H2.out.setCell (by (try simp) <;> omega) _), by (try simp) <;> omega⟩
    · have he : lowR low v = [] := by simp [lowR, hlw]
      go_wp2_with fail
      go_meet
      exact ⟨by simp [hlw], 0, none, 0, [], by omega, HX, Lib.hid (OP.nil_ _ _ _ _ _), by rw [he]; exact rfl, Apart.nil_, B0.out.alloc _, B1.out.alloc _, Lib.hid (Below.alloc H1 (by omega) _), by simp⟩
  case rest =>
    clear x0 xf HX B0 B1
    obtain ⟨rfl, n1, A1, c1, qs1, hn1, HX, HO, HE, HA, B0, B1, HW, hz⟩ := hcut
    go_upto_if 46 with (fail)
    have x0 := HX.out.cell (i := 0) rfl
    have xf := HX.out.free
    have hbs := HW.out.size
    go_cut [46] (fun v46 wx => v46 = .bool (decide (high < 4294967295)) ∧ ∃ (n1 : Nat) (A1 : Option Addr) (c1 : Nat) (qs1 : List (Rl × Value)), n1 ≤ 2 ∧ Hid (Blk wx w1.heap.size 25 [.slice A1 n1 c1, .int .i64 e]) ∧ Hid (OP wx (w1.heap.size + 1) wx.heap.size 35 83 A1 n1 c1 qs1) ∧ Hid (rls qs1 = lowR low v ++ highR high v) ∧ Hid (Apart qs1) ∧ Hid (Blk wx w.heap.size 25 [.slice A rs.length c, .int .i64 e]) ∧ Hid (Blk wx (w.heap.size + 1) 25 [.slice none 0 0, .int .i64 0]) ∧ Hid (Below w.heap.size w wx) ∧ w1.heap.size < wx.heap.size)
    case first =>
      rename World => wx
      by_cases hhg : high < 4294967295
      · have hwr : IntKind.i64.wrap (high + 1) = high + 1 := by rw [IntKind.wrap_i64]; omega
        have he : highR high v = [⟨v, high + 1, 4294967295, []⟩] := by simp [highR, hhg]
        go_wp2_with (at_builtin; refine wpList_append_rd _ rfl _ _ 23 rfl (w1.heap.size + 1) 35 i0 _ 4 48 Tryd.underlying23 hi0 hz0 hz1 hz2 rfl (by omega) (.slice A1 n1 c1) n1 (rcells qs1) rfl (OP.own (HO.out.up (by go_grown))) _ (some ⟨wx.heap.size, 0, none⟩) 1 1 (rcells [((⟨v, high + 1, 4294967295, []⟩ : Rl), .slice none 0 0)]) rfl (rd_new (by simp) 35 4 1 _ rfl) (one_rcells (w := w) (lo := 0) (hi := 0) (ET := 83) (fun q hq => by rw [List.mem_singleton.1 hq]; exact to_none _ _ _ _ _ _ _)) (by unfold maxLen; omega) (by omega) (by (try simp) <;> omega) ?_; intro A2 c2 w2 ho2 hg2 ha2; have hs2 := hg2.size; simp at hs2; have O2 := Lib.hid (OP.app (hi' := w2.heap.size) (HO.out.up (Below.alloc (Below.refl _ _) (Nat.le_refl _) _)) (by decide) (qs2 := [((⟨v, high + 1, 4294967295, []⟩ : Rl), .slice none 0 0)]) (fun q hq => by rw [List.mem_singleton.1 hq]; exact to_none _ _ _ _ _ _ _) (by omega) ho2 hg2 (Nat.le_refl _)); have hob : ∀ b, (Value.slice A1 n1 c1).ownBlock = some b → w1.heap.size + 1 ≤ b := (fun b e => (HO.out.own.lt b e).1); have D2 := Lib.hid ((HX.out.alloc _).gn hg2 (fun e => by have := hob _ e; omega)); have K0 := Lib.hid ((B0.out.alloc _).gn hg2 (fun e => by have := hob _ e; omega)); have K1 := Lib.hid ((B1.out.alloc _).gn hg2 (fun e => by have := hob _ e; omega)); have H2 := Lib.hid (below_app (Below.alloc HW.out (by omega) _) hg2 (fun b e => by have := hob _ e; omega) (Nat.le_refl _)); have y0 := D2.out.cell (i := 0) rfl; have yf := D2.out.free; clear ho2 hg2 ha2)
        go_meet
        exact ⟨by simp [hhg], n1 + 1, A2, c2, _, by omega, D2.out.set_ 0 _, Lib.hid ((O2.out.set_ (g := w1.heap.size) (o := 0) (.inl (by omega)) _).wide (Nat.le_refl _) (by simp)), by show _ = _; rw [he, rls_app, HE.out]; rfl, apart_none HA.out _, K0.out.far (by (try simp) <;> omega) _, K1.out.far (by (try simp) <;> omega) _, Lib.hid (H2.out.setCell (by (try simp) <;> omega) _), by (try simp) <;> omega⟩
      · have he : highR high v = [] := by simp [highR, hhg]
        go_wp2_with fail
        go_meet
        exact ⟨by simp [hhg], n1, A1, c1, qs1, by omega, HX, HO, by show _ = _; rw [he, List.append_nil]; exact HE.out, HA, B0, B1, HW, hz⟩
    case rest =>
      clear x0 xf HX B0 B1 HO HE HA HW hz hn1 hbs
      obtain ⟨rfl, n2, A2, c2, qs2, hn2, HX, HO, HE, HA, B0, B1, HW, hz⟩ := hcut
      have x0 := HX.out.cell (i := 0) rfl
      have x1 := HX.out.cell (i := 1) rfl
      have xf := HX.out.free
      have a0 := B0.out.cell (i := 0) rfl
      have a1 := B0.out.cell (i := 1) rfl
      have hbs := HW.out.size
      rename World => wx
      have hob : ∀ b, (Value.slice A2 n2 c2).ownBlock = some b → w1.heap.size + 1 ≤ b := fun b e => (HO.out.own.lt b e).1
      have HOB := Lib.hid hob
      clear hob
      go_wp2_with fail
      go_region_law (first
        | (refine step_append_rd _ (by rfl) _ _ 23 (by rfl) (w1.heap.size + 1) 35 i0 _ 4 48 Tryd.underlying23 hi0 hz0 hz1 hz2 rfl (by omega) (.slice A2 n2 c2) n2 (rcells qs2) (by rfl) (OP.own (R3.out.up (by go_grown))) w3.heap.size A3 rs.length c3 (rcells qs3) (by rfl) (Rd.below (Rd.of_own R4.out.own) (by go_grown)) (one_rcells R4.out.tst) (by unfold maxLen; omega) (by omega) (by (try simp) <;> omega) ?_; intro A5 c5 w5 h5 g5 a5; have hs5 := g5.size; (try simp at hs5); have H5 := Lib.hid (below_app (below_via H3.out (by go_grown)) g5 (fun b e => by have := HOB.out b e; omega) (Nat.le_refl _)); have R5 := Lib.hid (OP.app (R3.out.up (by go_grown)) (by decide) (hi' := w5.heap.size) (fun q hq => ((R4.out.tst q hq).up (by go_grown)).wide (by (try simp) <;> omega) (by (try simp) <;> omega)) (by (try simp) <;> omega) h5 g5 (Nat.le_refl _)); have P5 := Lib.hid (HA.out.app p3 (fun x hx y hy => apart_of (HO.out.tst x hx) (h3t.out y hy) (by (try simp) <;> omega))); have X5 := Lib.hid ((X3.out.up (by go_grown)).gn g5 (fun e => by have := HOB.out _ e; omega)); have Z5 := Lib.hid ((Z3.out.up (by go_grown)).gn g5 (fun e => by have := HOB.out _ e; omega)); have x50 := X5.out.cell (i := 0) rfl; have x51 := X5.out.cell (i := 1) rfl; have x5f := X5.out.free; clear h5 g5 a5)
        | (go_simp; (go_at_call 77; refine (HC1.out _ (((HR.out.below (show Below w.heap.size w _ from below_via HW.out (by go_grown))).more (by (try simp) <;> omega)))).mono ?_; rintro e w3 ⟨A3, c3, qs3, rfl, e3, o3, p3, b3⟩; have R4 := Lib.hid (o3.wide (show w1.heap.size + 1 ≤ _ by (try simp) <;> omega) (Nat.le_refl _)); have h3t := Lib.hid o3.tst; have R3 := Lib.hid (HO.out.up (below_via (by go_grown) b3)); have X3 := Lib.hid (HX.out.up (below_via (by go_grown) b3)); have Z3 := Lib.hid (B1.out.up (below_via (by go_grown) b3)); have H3 := Lib.hid (below_via HW.out (below_via (by go_grown) b3)); have hs3 := b3.size; (try simp at hs3); have x30 := X3.out.cell (i := 0) rfl; have x31 := X3.out.cell (i := 1) rfl; have x3f := X3.out.free; clear b3 o3)))
      all_goals
        have XW := Lib.hid (X5.out.set_ 0 (.slice A5 (n2 + rs.length) c5))
        have ZW := Lib.hid (Z5.out.far (p := ⟨w1.heap.size, 0, none⟩) (by (try simp) <;> omega) (.slice A5 (n2 + rs.length) c5))
        have RW := Lib.hid (R5.out.set_ (g := w1.heap.size) (o := 0) (.inl (by omega)) (.slice A5 (n2 + rs.length) c5))
        have HWW := Lib.hid (H5.out.setCell (p := ⟨w1.heap.size, 0, none⟩) (by (try simp) <;> omega) (.slice A5 (n2 + rs.length) c5))
        have hrl : rls (qs2 ++ qs3) = lowR low v ++ highR high v ++ rs := by rw [rls_app, HE.out, e3]
        have HRL := Lib.hid hrl
        have hne : w.heap.size + 1 ≠ w1.heap.size := by omega
        clear hrl
        (go_wp2_with fail); (go_at_call 18; refine (HO3.out A5 (n2 + rs.length) c5 _ (OP.rdE (RW.out.up (by go_grown)) HRL.out) (by omega)).mono ?_; rintro e w6 ⟨rfl, b6⟩; have R6 := Lib.hid (RW.out.up (below_via (by go_grown) b6)); have X6 := Lib.hid (XW.out.up (below_via (by go_grown) b6)); have Z6 := Lib.hid (ZW.out.up (below_via (by go_grown) b6)); have H6 := below_via HWW.out (below_via (by go_grown) b6); have hs6 := b6.size; (try simp at hs6); clear b6; have x60 := X6.out.cell (i := 0) rfl; have x61 := X6.out.cell (i := 1) rfl; have z60 := Z6.out.cell (i := 0) rfl; have z61 := Z6.out.cell (i := 1) rfl; have z6f := Z6.out.free)
        unfold RetIfB
        cases ok
        all_goals
          go_wp2
          first
            | (refine bodyPost_ret (v := .tuple #[.agg #[.slice none 0 0, .int .i64 0], .bool false]) (by simp [results, Tryd.results21, go_sem, z60, z61, z6f, x60, x61, hne]) rfl ?_; go_light; exact retPolB_no rfl (by go_grown))
            | (refine bodyPost_ret (v := .tuple #[.agg #[.slice A5 (n2 + rs.length) c5, .int .i64 e], .bool true]) (by simp [results, Tryd.results21, go_sem, z60, z61, z6f, x60, x61, hne]) rfl ?_
               go_light
               have hl9 : (lowR low v ++ highR high v ++ rs).length = n2 + rs.length := by
                 have h1 := R5.out.len
                 have h2 := congrArg List.length HRL.out
                 rw [rls_len] at h2
                 omega
               have RF := ((R6.out.set_ (g := w.heap.size + 1) (o := 0) (.inl (by omega)) (.slice A5 (n2 + rs.length) c5)).set_ (g := w.heap.size + 1) (o := 1) (.inl (by omega)) (.int .i64 e)).wide (lo' := w.heap.size) (hi' := w6.heap.size) (by omega) (by omega)
               refine ⟨A5, c5, qs2 ++ qs3, ?_, HRL.out, ?_, P5.out, by go_grown⟩
               · show Ending.returned (.tuple #[.agg #[.slice A5 (n2 + rs.length) c5, .int .i64 e], .bool true]) = .returned (.tuple #[.agg #[.slice A5 (lowR low v ++ highR high v ++ rs).length c5, .int .i64 e], .bool true])
                 rw [hl9]
               · show OP _ _ _ _ _ _ (lowR low v ++ highR high v ++ rs).length _ _
                 rw [hl9]
                 simpa using RF)
end Go.Proofs.YtljgaepgblakhaaDoor
