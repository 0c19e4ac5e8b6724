/- okPolicy, PolicyJoin: both sides. Conditions: each contract's own. -/
import Derived.Test.YtljgaepgblakhaaDoorCopy
import Derived.Test.YtljgaepgblakhaaDoorImplText2
import Derived.Test.YtljgaepgblakhaaDoorFits
namespace Go.Proofs.YtljgaepgblakhaaDoor
set_option linter.unusedSimpArgs false
open Go.RowKit
set_option linter.unusedVariables false
set_option linter.unnecessarySimpa false
set_option maxRecDepth 20000
/-- The call returns a policy in memory of its own, and whether it is one. -/
def RetPolB (ER ET : Nat) (p : Pol) (ok : Bool) (w : World) (e : Ending) (w' : World) : Prop :=
  ∃ A c qs, e = .returned (.tuple #[.agg #[.slice A p.rs.length c, .int .i64 p.els], .bool ok]) ∧ rls qs = p.rs ∧ OP w' w.heap.size w'.heap.size ER ET A p.rs.length c qs ∧ Apart qs ∧ Below w.heap.size w w'
theorem retPolB_no {ER ET : Nat} {w w' : World} {e : Ending} (he : e = .returned (.tuple #[.agg #[.slice none 0 0, .int .i64 0], .bool false])) (hb : Below w.heap.size w w') : RetPolB ER ET ⟨[], 0⟩ false w e w' :=
  ⟨none, 0, [], he, rfl, OP.nil_ _ _ _ _ _, Apart.nil_, hb⟩
theorem OP.drew {w : World} {lo hi ER ET n c : Nat} {A : Option Addr} {qs : List (Rl × Value)} (h : OP w lo hi ER ET A n c qs) : OP w.drew lo hi ER ET A n c qs := ⟨h.own, h.high, fun q hq => ⟨(h.tst q hq).own, (h.tst q hq).high⟩⟩
theorem OP.drewN {w : World} {lo hi ER ET n c : Nat} {A : Option Addr} {qs : List (Rl × Value)} (h : OP w lo hi ER ET A n c qs) (k : Nat) : OP (w.drewN k) lo hi ER ET A n c qs := ⟨h.own, h.high, fun q hq => ⟨(h.tst q hq).own, (h.tst q hq).high⟩⟩
theorem own_setB {w : World} {lo e size n X T o : Nat} {v : Value} {xs cs : List Value} (h : w.ownsRow lo e size v n xs) (hX : Blk w X T cs) (hT : e ≠ T) (u : Value) : (w.setCell ⟨X, o, none⟩ u).ownsRow lo e size v n xs := by
  refine ((Keep.refl w (fun t => t ≠ X)).set_ u (fun t ht _ e => ht e.symm)).own h (fun t ht e => ?_)
  subst e
  rcases h.2 with ⟨h1, _⟩ | ⟨g1, c1, cur1, rfl, _, hh1, _⟩
  · rw [h1] at ht; cases ht
  · have e1 : g1 = t := by injection ht
    subst e1
    have h2 := hX
    unfold Blk at h2
    rw [hh1] at h2
    injection h2 with h2
    injection h2 with _ e3 _
    exact hT e3
/-- A cell of a block of another kind written. -/
theorem OP.setB {w : World} {lo hi ER ET n c X T o : Nat} {A : Option Addr} {qs : List (Rl × Value)} {cs : List Value} (h : OP w lo hi ER ET A n c qs) (hX : Blk w X T cs) (h1 : ER ≠ T) (h2 : ET ≠ T) (u : Value) : OP (w.setCell ⟨X, o, none⟩ u) lo hi ER ET A n c qs :=
  ⟨own_setB h.own hX h1 u, h.high, fun q hq => ⟨own_setB (h.tst q hq).own hX h2 u, (h.tst q hq).high⟩⟩
/-- What becomes of rules that are made into a policy. -/
def okP (p : Pol) : Pol := if polOk p then p else ⟨[], 0⟩
def joinP (p q : Pol) : Pol := if polOk p && polOk q then okP ⟨p.rs ++ q.rs, q.els⟩ else ⟨[], 0⟩
def joinB (p q : Pol) : Bool := polOk p && polOk q && polOk ⟨p.rs ++ q.rs, q.els⟩
theorem apart_of {w w' : World} {lo hi lo' hi' ET : Nat} {x y : Rl × Value} (hx : TO w lo hi ET x) (hy : TO w' lo' hi' ET y) (h : hi ≤ lo') : x.2.ownBlock = none ∨ x.2.ownBlock ≠ y.2.ownBlock := by
  by_cases hn : x.2.ownBlock = none
  · exact .inl hn
  · obtain ⟨g, hg⟩ := Option.ne_none_iff_exists'.1 hn
    right
    intro e
    have h1 := hx.high g hg
    have h2 := (hy.lt g (by rw [← e]; exact hg)).1
    omega
theorem polOk_ts {rs : List Rl} {e : Int} (h : polOk ⟨rs, e⟩ = true) : ∀ r ∈ rs, r.ts.length ≤ 4 := fun r hr => by
  have := (polOk_rules h).2
  rw [List.all_eq_true] at this
  exact (rule_and (this r hr)).2.2.2.2.1
theorem okPolicy_c (A : Option Addr) (n c : Nat) (rs : List Rl) (e : Int) (w : World) (hn : n ≤ 9223372036854775807) (hr : RdR w w.heap.size A n rs) (hp : PT w w.heap.size) (ok : Bool) (hk : polOk ⟨rs, e⟩ = ok) :
    Calls Tryd.prog 75 #[.agg #[.slice A n c, .int .i64 e]] w (RetB (.tuple #[.agg #[if ok then .slice A n c else .slice none 0 0, if ok then .int .i64 e else .int .i64 0], .bool ok]) w) := by
  have HR := Lib.hid hr
  have HP := Lib.hid hp
  have hO := fun W h1 h2 => policyOk_c A n c rs e W h1 hn h2
  rw [hk] at hO
  have HO := Lib.hid hO
  clear hr hp hO hk
  cases ok with
  | true =>
    go_enter Tryd.func75, Tryd.ntmps75
    (go_wp2_with fail); (go_at_call 17; refine (HO.out _ (HR.out.upB (by go_grown) (by go_size)) ((HP.out.below (by go_grown)).more (by simp; omega))).mono ?_; rintro e w1 ⟨rfl, b1⟩; obtain ⟨gc1, gf1⟩ := below_get b1; (try simp only [heap_drew, World.size_alloc, World.size_setCell] at gc1 gf1); have s1 := below_via (w := w) (by go_grown) b1; have H1 := s1; have hs1 := b1.size; (try simp at hs1); have z1_0 : w.heap.size < w1.heap.size := (by omega); have z1_1 : w.heap.size + 1 < w1.heap.size := (by omega); clear b1)
    go_wp2
    refine bodyPost_ret (v := .tuple #[.agg #[.slice A n c, .int .i64 e], .bool true]) (by simp [results, Tryd.results75, go_sem, gc1]) rfl ?_
    go_light
    exact ⟨rfl, by go_grown⟩
  | false =>
    go_enter Tryd.func75, Tryd.ntmps75
    (go_wp2_with fail); (go_at_call 17; refine (HO.out _ (HR.out.upB (by go_grown) (by go_size)) ((HP.out.below (by go_grown)).more (by simp; omega))).mono ?_; rintro e w1 ⟨rfl, b1⟩; obtain ⟨gc1, gf1⟩ := below_get b1; (try simp only [heap_drew, World.size_alloc, World.size_setCell] at gc1 gf1); have s1 := below_via (w := w) (by go_grown) b1; have H1 := s1; have hs1 := b1.size; (try simp at hs1); have z1_0 : w.heap.size < w1.heap.size := (by omega); have z1_1 : w.heap.size + 1 < w1.heap.size := (by omega); clear b1)
    go_wp2
    refine bodyPost_ret (v := .tuple #[.agg #[.slice none 0 0, .int .i64 0], .bool false]) (by simp [results, Tryd.results75, go_sem, gc1]) rfl ?_
    go_light
    exact ⟨rfl, by go_grown⟩
set_option maxHeartbeats 4000000 in
theorem policyJoin_yes (A : Option Addr) (n c : Nat) (rs : List Rl) (e : Int) (B : Option Addr) (m d : Nat) (rs' : List Rl) (e' : Int) (w : World) (hn : n ≤ 9223372036854775807) (hm : m ≤ 9223372036854775807) (hr : RdR w w.heap.size A n rs) (hq : RdR w w.heap.size B m rs') (hp : PT w w.heap.size) (h1 : polOk ⟨rs, e⟩ = true) (h2 : polOk ⟨rs', e'⟩ = true) (ok : Bool) (h3 : polOk ⟨rs ++ rs', e'⟩ = ok) :
    Calls Tryd.prog 30 #[.agg #[.slice A n c, .int .i64 e], .agg #[.slice B m d, .int .i64 e']] w (RetPolB 35 83 (if ok then ⟨rs ++ rs', e'⟩ else ⟨[], 0⟩) ok w) := by
  obtain ⟨i0, hi0, hz0, hz1, hz2⟩ := info_parts info_rule
  have hl1 := hr.1
  have hl2 := hq.1
  subst hl1 hl2
  have HR := Lib.hid hr
  have HQ := Lib.hid hq
  have HP := Lib.hid hp
  have hA8 := (polOk_rules h1).1
  have hB8 := (polOk_rules h2).1
  have hO1 := fun W h h' => policyOk_c A rs.length c rs e W h hn h'
  have hO2 := fun W h h' => policyOk_c B rs'.length d rs' e' W h hm h'
  rw [h1] at hO1
  rw [h2] at hO2
  have HO1 := Lib.hid hO1
  have HO2 := Lib.hid hO2
  have HC1 := Lib.hid (fun W h => copyRules_c A rs.length c rs W h (by omega) (fun r hr => by have := polOk_ts h1 r hr; omega))
  have HC2 := Lib.hid (fun W h => copyRules_c B rs'.length d rs' W h (by omega) (fun r hr => by have := polOk_ts h2 r hr; omega))
  have hC3 := fun A n c W hn h h' => okPolicy_c A n c (rs ++ rs') e' W hn h h' ok h3
  clear hr hq hp hO1 hO2 h1 h2 h3
  cases ok
  all_goals
    simp only [if_true, if_false, Bool.false_eq_true, ↓reduceIte] at hC3 ⊢
    have HC3 := Lib.hid hC3
    clear hC3
    go_enter Tryd.func30, Tryd.ntmps30
    (go_wp2_with fail); (go_at_call 17; refine (HO1.out _ (HR.out.upB (by go_grown) (by go_size)) ((HP.out.below (by go_grown)).more (by simp; omega))).mono ?_; rintro e w1 ⟨rfl, b1⟩; obtain ⟨gc1, gf1⟩ := below_get b1; (try simp only [heap_drew, World.size_alloc, World.size_setCell] at gc1 gf1); have s1 := below_via (w := w) (by go_grown) b1; have H1 := s1; have hs1 := b1.size; (try simp at hs1); have z1_0 : w.heap.size < w1.heap.size := (by omega); have z1_1 : w.heap.size + 1 < w1.heap.size := (by omega); have z1_2 : w.heap.size + 1 + 1 < w1.heap.size := (by omega); clear b1)
    (go_wp2_with fail); (go_at_call 17; refine (HO2.out _ ((HQ.out.up s1).upB (by go_grown) (by go_size)) ((HP.out.below (show Below w.heap.size w _ from below_via H1 (by go_grown))).more (by (try simp); omega))).mono ?_; rintro e w2 ⟨rfl, b2⟩; obtain ⟨gc2, gf2⟩ := below_get b2; (try simp only [heap_drew, World.size_alloc, World.size_setCell] at gc2 gf2); have s2 := below_via (w := w1) (by go_grown) b2; have H2 := below_via H1 s2; have hs2 := b2.size; (try simp at hs2); have z2_0 : w.heap.size < w2.heap.size := (by omega); have z2_1 : w.heap.size + 1 < w2.heap.size := (by omega); have z2_2 : w.heap.size + 1 + 1 < w2.heap.size := (by omega); clear b2)
    go_wp2_with fail
    go_region_held3 (fun w' => w'.cell? ⟨w.heap.size, 0, none⟩ = some (.slice A rs.length c) ∧ w'.cell? ⟨w.heap.size + 1, 0, none⟩ = some (.slice B rs'.length d) ∧ w'.cell? ⟨w.heap.size + 1, 1, none⟩ = some (.int .i64 e')) (simp [go_sem, *])
      (first
        | (go_at_call 75; refine (HC3.out A5 (rs.length + rs'.length) c5 _ (by omega) (by have h := OP.rd (R5.out.up (by go_grown)); rw [rls_app, e3, e4] at h; exact h) ((HP.out.below (show Below w.heap.size w _ from below_via H5 (by go_grown))).more (by (try simp); omega))).mono ?_; rintro e w6 ⟨rfl, b6⟩; have R6 := Lib.hid (R5.out.up (below_via (by go_grown) b6)); obtain ⟨gc6, gf6⟩ := below_get b6; (try simp only [heap_drew, World.size_alloc, World.size_setCell] at gc6 gf6); have s6 := below_via (w := w5) (by go_grown) b6; have H6 := below_via H5 s6; have hs6 := b6.size; (try simp at hs6); have z6_0 : w.heap.size < w6.heap.size := (by omega); have z6_1 : w.heap.size + 1 < w6.heap.size := (by omega); have z6_2 : w.heap.size + 1 + 1 < w6.heap.size := (by omega); clear b6)
        | (refine step_append_rd _ (by rfl) _ _ 23 (by rfl) w2.heap.size 35 i0 _ 4 48 Tryd.underlying23 hi0 hz0 hz1 hz2 rfl (by omega) (.slice A3 rs.length c3) rs.length (rcells qs3) (by rfl) (OP.own (R3.out.up (by go_grown))) w4.heap.size A4 rs'.length c4 (rcells qs4) (by rfl) (Rd.below (Rd.of_own R4.out.own) (by go_grown)) (one_rcells R4.out.tst) (by unfold maxLen; omega) (by omega) (by (try simp) <;> omega) ?_; intro A5 c5 w5 h5 g5 a5; have hs5 := g5.size; (try simp at hs5); have b5 := below_app (Below.refl w2.heap.size _) g5 (fun b e => (R3.out.own.lt b e).1) (by (try simp) <;> omega); obtain ⟨gc5, gf5⟩ := below_get b5; (try simp only [heap_drew, World.size_alloc, World.size_setCell] at gc5 gf5); have H5 := (below_via H4 (show Below w4.heap.size w4 _ from by go_grown)).trans (b5.mono (by omega)); have R5 := Lib.hid (OP.app (R3.out.up (by go_grown)) (by decide) (hi' := w5.heap.size) (fun q hq => ((R4.out.tst q hq).up (by go_grown)).wide (by (try simp) <;> omega) (by (try simp) <;> omega)) (by (try simp) <;> omega) h5 g5 (Nat.le_refl _)); have P5 := Lib.hid (p3.app p4 (fun x hx y hy => apart_of (h3t.out x hx) (R4.out.tst y hy) (by (try simp) <;> omega))); have z5_0 : w.heap.size < w5.heap.size := (by omega); have z5_1 : w.heap.size + 1 < w5.heap.size := (by omega); have z5_2 : w.heap.size + 1 + 1 < w5.heap.size := (by omega); clear h5 g5 a5 b5)
        | (go_at_call 76; refine (HC2.out _ ((HQ.out.below (show Below w.heap.size w _ from below_via H3 (by go_grown))).more (by (try simp); omega))).mono ?_; rintro e w4 ⟨A4, c4, qs4, rfl, e4, o4, p4, b4⟩; have R4 := Lib.hid o4; have R3' := Lib.hid (R3.out.up (below_via (by go_grown) b4)); clear R3; have R3 := R3'; clear R3' o4; obtain ⟨gc4, gf4⟩ := below_get b4; (try simp only [heap_drew, World.size_alloc, World.size_setCell] at gc4 gf4); have s4 := below_via (w := w3) (by go_grown) b4; have H4 := below_via H3 s4; have hs4 := b4.size; (try simp at hs4); have z4_0 : w.heap.size < w4.heap.size := (by omega); have z4_1 : w.heap.size + 1 < w4.heap.size := (by omega); have z4_2 : w.heap.size + 1 + 1 < w4.heap.size := (by omega); clear b4)
        | (go_at_call 76; refine (HC1.out _ ((HR.out.below (show Below w.heap.size w _ from below_via H2 (by go_grown))).more (by (try simp); omega))).mono ?_; rintro e w3 ⟨A3, c3, qs3, rfl, e3, o3, p3, b3⟩; have R3 := Lib.hid o3; have h3t := Lib.hid o3.tst; clear o3; obtain ⟨gc3, gf3⟩ := below_get b3; (try simp only [heap_drew, World.size_alloc, World.size_setCell] at gc3 gf3); have s3 := below_via (w := w2) (by go_grown) b3; have H3 := below_via H2 s3; have hs3 := b3.size; (try simp at hs3); have z3_0 : w.heap.size < w3.heap.size := (by omega); have z3_1 : w.heap.size + 1 < w3.heap.size := (by omega); have z3_2 : w.heap.size + 1 + 1 < w3.heap.size := (by omega); clear b3))
    go_wp2
    first
      | (refine bodyPost_ret (v := .tuple #[.agg #[.slice none 0 0, .int .i64 0], .bool false]) (by simp [results, Tryd.results30, go_sem, gc6, gc5, gc4, gc3, gc2, gc1, z1_2, z2_2, z3_2, z4_2, z5_2, z6_2]) rfl ?_; go_light; exact retPolB_no rfl (by go_grown))
      | (refine bodyPost_ret (v := .tuple #[.agg #[.slice A5 (rs.length + rs'.length) c5, .int .i64 e'], .bool true]) (by simp [results, Tryd.results30, go_sem, gc6, gc5, gc4, gc3, gc2, gc1, z1_2, z2_2, z3_2, z4_2, z5_2, z6_2]) rfl ?_; go_light; exact ⟨A5, c5, qs3 ++ qs4, (by simp), (by rw [rls_app, e3, e4]), (by
          have h := ((R6.out.set_ (g := w.heap.size + 1 + 1) (o := 0) (.inl (by (try simp) <;> omega)) (.slice A5 (rs.length + rs'.length) c5)).set_ (g := w.heap.size + 1 + 1) (o := 1) (.inl (by (try simp) <;> omega)) (.int .i64 e')).wide (lo' := w.heap.size) (hi' := w6.heap.size) (by (try simp) <;> omega) (by omega)
          have e : (rs ++ rs').length = rs.length + rs'.length := List.length_append
          simp only [e]
          simpa using h), P5.out, by go_grown⟩)
theorem policyJoin_c (A : Option Addr) (n c : Nat) (rs : List Rl) (e : Int) (B : Option Addr) (m d : Nat) (rs' : List Rl) (e' : Int) (w : World) (hn : n ≤ 9223372036854775807) (hm : m ≤ 9223372036854775807) (hr : RdR w w.heap.size A n rs) (hq : RdR w w.heap.size B m rs') (hp : PT w w.heap.size) :
    Calls Tryd.prog 30 #[.agg #[.slice A n c, .int .i64 e], .agg #[.slice B m d, .int .i64 e']] w (RetPolB 35 83 (joinP ⟨rs, e⟩ ⟨rs', e'⟩) (joinB ⟨rs, e⟩ ⟨rs', e'⟩) w) := by
  by_cases h1 : polOk ⟨rs, e⟩ = true
  · by_cases h2 : polOk ⟨rs', e'⟩ = true
    · have := policyJoin_yes A n c rs e B m d rs' e' w hn hm hr hq hp h1 h2 _ rfl
      rw [joinP, joinB, h1, h2]
      exact this
    · have h2' : polOk ⟨rs', e'⟩ = false := by simpa using h2
      have e1 : joinP ⟨rs, e⟩ ⟨rs', e'⟩ = ⟨[], 0⟩ := by rw [joinP, h2', Bool.and_false]; rfl
      have e2 : joinB ⟨rs, e⟩ ⟨rs', e'⟩ = false := by rw [joinB, h2', Bool.and_false]; rfl
      have hO1 := fun W h h' => policyOk_c A n c rs e W h hn h'
      have hO2 := fun W h h' => policyOk_c B m d rs' e' W h hm h'
      rw [h1] at hO1
      rw [h2'] at hO2
      rw [e1, e2]
      have HR := Lib.hid hr
      have HQ := Lib.hid hq
      have HP := Lib.hid hp
      have HO1 := Lib.hid hO1
      have HO2 := Lib.hid hO2
      clear hr hq hp hO1 hO2 h1 h2 h2' e1 e2
      go_enter Tryd.func30, Tryd.ntmps30
      (go_wp2_with fail); (go_at_call 17; refine (HO1.out _ (HR.out.upB (by go_grown) (by go_size)) ((HP.out.below (by go_grown)).more (by simp; omega))).mono ?_; rintro e w1 ⟨rfl, b1⟩; obtain ⟨gc1, gf1⟩ := below_get b1; (try simp only [heap_drew, World.size_alloc, World.size_setCell] at gc1 gf1); have s1 := below_via (w := w) (by go_grown) b1; have H1 := s1; have hs1 := b1.size; (try simp at hs1); have z1_0 : w.heap.size < w1.heap.size := (by omega); have z1_1 : w.heap.size + 1 < w1.heap.size := (by omega); have z1_2 : w.heap.size + 1 + 1 < w1.heap.size := (by omega); clear b1)
      (go_wp2_with fail); (go_at_call 17; refine (HO2.out _ ((HQ.out.up s1).upB (by go_grown) (by go_size)) ((HP.out.below (show Below w.heap.size w _ from below_via H1 (by go_grown))).more (by (try simp); omega))).mono ?_; rintro e w2 ⟨rfl, b2⟩; obtain ⟨gc2, gf2⟩ := below_get b2; (try simp only [heap_drew, World.size_alloc, World.size_setCell] at gc2 gf2); have s2 := below_via (w := w1) (by go_grown) b2; have H2 := below_via H1 s2; have hs2 := b2.size; (try simp at hs2); have z2_0 : w.heap.size < w2.heap.size := (by omega); have z2_1 : w.heap.size + 1 < w2.heap.size := (by omega); have z2_2 : w.heap.size + 1 + 1 < w2.heap.size := (by omega); clear b2)
      go_wp2
      refine bodyPost_ret (v := .tuple #[.agg #[.slice none 0 0, .int .i64 0], .bool false]) (by simp [results, Tryd.results30, go_sem, gc2, gc1, z1_2, z2_2]) rfl ?_
      go_light
      exact retPolB_no rfl (by go_grown)
  · have h1' : polOk ⟨rs, e⟩ = false := by simpa using h1
    have e1 : joinP ⟨rs, e⟩ ⟨rs', e'⟩ = ⟨[], 0⟩ := by rw [joinP, h1', Bool.false_and]; rfl
    have e2 : joinB ⟨rs, e⟩ ⟨rs', e'⟩ = false := by rw [joinB, h1', Bool.false_and, Bool.false_and]
    have hO1 := fun W h h' => policyOk_c A n c rs e W h hn h'
    rw [h1'] at hO1
    rw [e1, e2]
    have HR := Lib.hid hr
    have HP := Lib.hid hp
    have HO1 := Lib.hid hO1
    clear hr hq hp hO1 h1 h1' e1 e2
    go_enter Tryd.func30, Tryd.ntmps30
    (go_wp2_with fail); (go_at_call 17; refine (HO1.out _ (HR.out.upB (by go_grown) (by go_size)) ((HP.out.below (by go_grown)).more (by simp; omega))).mono ?_; rintro e w1 ⟨rfl, b1⟩; obtain ⟨gc1, gf1⟩ := below_get b1; (try simp only [heap_drew, World.size_alloc, World.size_setCell] at gc1 gf1); have s1 := below_via (w := w) (by go_grown) b1; have H1 := s1; have hs1 := b1.size; (try simp at hs1); have z1_0 : w.heap.size < w1.heap.size := (by omega); have z1_1 : w.heap.size + 1 < w1.heap.size := (by omega); have z1_2 : w.heap.size + 1 + 1 < w1.heap.size := (by omega); clear b1)
    go_wp2
    refine bodyPost_ret (v := .tuple #[.agg #[.slice none 0 0, .int .i64 0], .bool false]) (by simp [results, Tryd.results30, go_sem, gc1]) rfl ?_
    go_light
    exact retPolB_no rfl (by go_grown)
theorem field_pol (a b : Value) (W : World) : (Instr.field 25 (.agg #[a, b]) 0).run Tryd.prog W = .ok a W := by kernel_rfl
set_option maxHeartbeats 4000000 in
theorem specPolicyJoin_yes (A : Option Addr) (n c : Nat) (rs : List Rl) (e : Int) (B : Option Addr) (m d : Nat) (rs' : List Rl) (e' : Int) (w : World) (hn : n ≤ 9223372036854775807) (hm : m ≤ 9223372036854775807) (hr : RdR w w.heap.size A n rs) (hq : RdR w w.heap.size B m rs') (h1 : polOk ⟨rs, e⟩ = true) (h2 : polOk ⟨rs', e'⟩ = true) (ok : Bool) (h3 : polOk ⟨rs ++ rs', e'⟩ = ok) :
    Calls Tryd.prog 31 #[.agg #[.slice A n c, .int .i64 e], .agg #[.slice B m d, .int .i64 e']] w (RetPolB 35 83 (if ok then ⟨rs ++ rs', e'⟩ else ⟨[], 0⟩) ok w) := by
  obtain ⟨i0, hi0, hz0, hz1, hz2⟩ := info_parts info_rule
  have hl1 := hr.1
  have hl2 := hq.1
  subst hl1 hl2
  have HR := Lib.hid hr
  have HQ := Lib.hid hq
  have hA8 := (polOk_rules h1).1
  have hB8 := (polOk_rules h2).1
  have hO1 := fun W h => specPolicyOk_c A rs.length c rs e W h hn
  have hO2 := fun W h => specPolicyOk_c B rs'.length d rs' e' W h hm
  have hO3 := fun A n c W h hn => specPolicyOk_c A n c (rs ++ rs') e' W h hn
  rw [h1] at hO1
  rw [h2] at hO2
  rw [h3] at hO3
  have HO1 := Lib.hid hO1
  have HO2 := Lib.hid hO2
  have HC1 := Lib.hid (fun W h => l2Copy_c A rs.length c rs e W h (by omega) (fun r hr => by have := polOk_ts h1 r hr; omega))
  have HC2 := Lib.hid (fun W h => l2Copy_c B rs'.length d rs' e' W h (by omega) (fun r hr => by have := polOk_ts h2 r hr; omega))
  have HO3 := Lib.hid hO3
  clear hr hq hO1 hO2 hO3 h1 h2 h3
  have hfl := field_pol
  cases ok
  all_goals
    simp only [if_true, if_false, Bool.false_eq_true, ↓reduceIte]
    go_enter Tryd.func31, Tryd.ntmps31
    (go_wp2_with fail); (go_at_call 18; refine (HO1.out _ (HR.out.upB (by go_grown) (by go_size))).mono ?_; rintro e w1 ⟨rfl, b1⟩; obtain ⟨gc1, gf1⟩ := below_get b1; (try simp only [heap_drew, World.size_alloc, World.size_setCell] at gc1 gf1); have s1 := below_via (w := w) (by go_grown) b1; have H1 := s1; have hs1 := b1.size; (try simp at hs1); have z1_0 : w.heap.size < w1.heap.size := (by omega); have z1_1 : w.heap.size + 1 < w1.heap.size := (by omega); have z1_2 : w.heap.size + 1 + 1 < w1.heap.size := (by omega); clear b1)
    (go_wp2_with fail); (go_at_call 18; refine (HO2.out _ ((HQ.out.up s1).upB (by go_grown) (by go_size))).mono ?_; rintro e w2 ⟨rfl, b2⟩; obtain ⟨gc2, gf2⟩ := below_get b2; (try simp only [heap_drew, World.size_alloc, World.size_setCell] at gc2 gf2); have s2 := below_via (w := w1) (by go_grown) b2; have H2 := below_via H1 s2; have hs2 := b2.size; (try simp at hs2); have z2_0 : w.heap.size < w2.heap.size := (by omega); have z2_1 : w.heap.size + 1 < w2.heap.size := (by omega); have z2_2 : w.heap.size + 1 + 1 < w2.heap.size := (by omega); clear b2)
    (go_wp2_with fail); (go_at_call 77; refine (HC1.out _ ((HR.out.below (show Below w.heap.size w _ from below_via H2 (by go_grown))).more (by (try simp); omega))).mono ?_; rintro e w3 ⟨A3, c3, qs3, rfl, e3, o3, p3, b3⟩; have R3 := Lib.hid o3; have h3t := Lib.hid o3.tst; clear o3; obtain ⟨gc3, gf3⟩ := below_get b3; (try simp only [heap_drew, World.size_alloc, World.size_setCell] at gc3 gf3); have s3 := below_via (w := w2) (by go_grown) b3; have H3 := below_via H2 s3; have hs3 := b3.size; (try simp at hs3); have z3_0 : w.heap.size < w3.heap.size := (by omega); have z3_1 : w.heap.size + 1 < w3.heap.size := (by omega); have z3_2 : w.heap.size + 1 + 1 < w3.heap.size := (by omega); clear b3)
    have HX := Lib.hid (Blk.new w3 25 [.slice A3 rs.length c3, .int .i64 e])
    have x30 := HX.out.cell (i := 0) rfl
    have x31 := HX.out.cell (i := 1) rfl
    go_wp2_with fail
    go_region_law (first
      | (refine step_append_rd _ (by rfl) _ _ 23 (by rfl) w2.heap.size 35 i0 _ 4 48 Tryd.underlying23 hi0 hz0 hz1 hz2 rfl (by omega) (.slice A3 rs.length c3) rs.length (rcells qs3) (by rfl) (OP.own (R3.out.up (by go_grown))) w4.heap.size A4 rs'.length c4 (rcells qs4) (by rfl) (Rd.below (Rd.of_own R4.out.own) (by go_grown)) (one_rcells R4.out.tst) (by unfold maxLen; omega) (by omega) (by (try simp) <;> omega) ?_; intro A5 c5 w5 h5 g5 a5; have hs5 := g5.size; (try simp at hs5); have b5 := below_app (Below.refl w2.heap.size _) g5 (fun b e => (R3.out.own.lt b e).1) (by (try simp) <;> omega); obtain ⟨gc5, gf5⟩ := below_get b5; (try simp only [heap_drew, World.size_alloc, World.size_setCell] at gc5 gf5); have H5 := (below_via H4 (show Below w4.heap.size w4 _ from by go_grown)).trans (b5.mono (by omega)); have X5 := Lib.hid ((X4.out.up (show Below w4.heap.size w4 _ from by go_grown)).gn g5 (fun e => by have := R3.out.high _ e; omega)); have x50 := X5.out.cell (i := 0) rfl; have x51 := X5.out.cell (i := 1) rfl; have x5f := X5.out.free; have R5 := Lib.hid (OP.app (R3.out.up (by go_grown)) (by decide) (hi' := w5.heap.size) (fun q hq => ((R4.out.tst q hq).up (by go_grown)).wide (by (try simp) <;> omega) (by (try simp) <;> omega)) (by (try simp) <;> omega) h5 g5 (Nat.le_refl _)); have P5 := Lib.hid (p3.app p4 (fun x hx y hy => apart_of (h3t.out x hx) (R4.out.tst y hy) (by (try simp) <;> omega))); have z5_0 : w.heap.size < w5.heap.size := (by omega); have z5_1 : w.heap.size + 1 < w5.heap.size := (by omega); have z5_2 : w.heap.size + 1 + 1 < w5.heap.size := (by omega); have z5_3 : w3.heap.size < w5.heap.size := (by omega); clear h5 g5 a5 b5)
      | (go_simp; (go_at_call 77; refine (HC2.out _ ((HQ.out.below (show Below w.heap.size w _ from below_via H3 (by go_grown))).more (by (try simp); omega))).mono ?_; rintro e w4 ⟨A4, c4, qs4, rfl, e4, o4, p4, b4⟩; have R4 := Lib.hid o4; have R3' := Lib.hid (R3.out.up (below_via (by go_grown) b4)); have X4 := Lib.hid (HX.out.up (below_via (by go_grown) b4)); have x40 := X4.out.cell (i := 0) rfl; have x41 := X4.out.cell (i := 1) rfl; have x4f := X4.out.free; clear R3; have R3 := R3'; clear R3' o4; obtain ⟨gc4, gf4⟩ := below_get b4; (try simp only [heap_drew, World.size_alloc, World.size_setCell] at gc4 gf4); have s4 := below_via (w := w3) (by go_grown) b4; have H4 := below_via H3 s4; have hs4 := b4.size; (try simp at hs4); have z4_0 : w.heap.size < w4.heap.size := (by omega); have z4_1 : w.heap.size + 1 < w4.heap.size := (by omega); have z4_2 : w.heap.size + 1 + 1 < w4.heap.size := (by omega); have z4_3 : w3.heap.size < w4.heap.size := (by omega); clear b4)))
    all_goals
      have hne : w.heap.size + 1 + 1 ≠ w3.heap.size := by omega
      have hne1 : w.heap.size + 1 ≠ w3.heap.size := by omega
      have XW := Lib.hid ((X5.out.set_ 0 (.slice A5 (rs.length + rs'.length) c5)).set_ 1 (.int .i64 e'))
      have RW := Lib.hid ((R5.out.setB (o := 0) X5.out (by decide) (by decide) (.slice A5 (rs.length + rs'.length) c5)).setB (o := 1) (X5.out.set_ 0 (.slice A5 (rs.length + rs'.length) c5)) (by decide) (by decide) (.int .i64 e'))
      (go_wp2_with fail); (go_at_call 18; refine (HO3.out A5 (rs.length + rs'.length) c5 _ (by have h := OP.rd (RW.out.up (by go_grown)); rw [rls_app, e3, e4] at h; exact h) (by omega)).mono ?_; rintro e w6 ⟨rfl, b6⟩; have R6 := Lib.hid (RW.out.up (below_via (by go_grown) b6)); have X6 := Lib.hid (XW.out.up (below_via (by go_grown) b6)); have x60 := X6.out.cell (i := 0) rfl; have x61 := X6.out.cell (i := 1) rfl; obtain ⟨gc6, gf6⟩ := below_get b6; (try simp only [heap_drew, World.size_alloc, World.size_setCell] at gc6 gf6); have H6 := below_via (w := w) (by go_grown) b6; have hs6 := b6.size; (try simp at hs6); have z6_0 : w.heap.size < w6.heap.size := (by omega); have z6_1 : w.heap.size + 1 < w6.heap.size := (by omega); have z6_2 : w.heap.size + 1 + 1 < w6.heap.size := (by omega); have z6_3 : w3.heap.size < w6.heap.size := (by omega); clear b6)
      go_wp2
      first
        | (refine bodyPost_ret (v := .tuple #[.agg #[.slice none 0 0, .int .i64 0], .bool false]) (by simp [results, Tryd.results31, go_sem, gc6, gc5, gc4, gc3, gc2, gc1, z1_2, z2_2, z3_1, z3_2, z4_2, z5_2, z6_2, hne]) rfl ?_; go_light; exact retPolB_no rfl (by go_grown))
        | (refine bodyPost_ret (v := .tuple #[.agg #[.slice A5 (rs.length + rs'.length) c5, .int .i64 e'], .bool true]) (by simp [results, Tryd.results31, go_sem, gc6, gc5, gc4, gc3, gc2, gc1, z1_2, z2_2, z3_1, z3_2, z4_2, z5_2, z6_2, hne]) rfl ?_; go_light; exact ⟨A5, c5, qs3 ++ qs4, (by simp), (by rw [rls_app, e3, e4]), (by
            have h := ((R6.out.set_ (g := w.heap.size + 1 + 1) (o := 0) (.inl (by (try simp) <;> omega)) (.slice A5 (rs.length + rs'.length) c5)).set_ (g := w.heap.size + 1 + 1) (o := 1) (.inl (by (try simp) <;> omega)) (.int .i64 e')).wide (lo' := w.heap.size) (hi' := w6.heap.size) (by (try simp) <;> omega) (by omega)
            have e : (rs ++ rs').length = rs.length + rs'.length := List.length_append
            simp only [e]
            simpa using h), P5.out, by go_grown⟩)
theorem specPolicyJoin_c (A : Option Addr) (n c : Nat) (rs : List Rl) (e : Int) (B : Option Addr) (m d : Nat) (rs' : List Rl) (e' : Int) (w : World) (hn : n ≤ 9223372036854775807) (hm : m ≤ 9223372036854775807) (hr : RdR w w.heap.size A n rs) (hq : RdR w w.heap.size B m rs') :
    Calls Tryd.prog 31 #[.agg #[.slice A n c, .int .i64 e], .agg #[.slice B m d, .int .i64 e']] w (RetPolB 35 83 (joinP ⟨rs, e⟩ ⟨rs', e'⟩) (joinB ⟨rs, e⟩ ⟨rs', e'⟩) w) := by
  by_cases h1 : polOk ⟨rs, e⟩ = true
  · by_cases h2 : polOk ⟨rs', e'⟩ = true
    · have := specPolicyJoin_yes A n c rs e B m d rs' e' w hn hm hr hq h1 h2 _ rfl
      rw [joinP, joinB, h1, h2]
      exact this
    · have h2' : polOk ⟨rs', e'⟩ = false := by simpa using h2
      have e1 : joinP ⟨rs, e⟩ ⟨rs', e'⟩ = ⟨[], 0⟩ := by rw [joinP, h2', Bool.and_false]; rfl
      have e2 : joinB ⟨rs, e⟩ ⟨rs', e'⟩ = false := by rw [joinB, h2', Bool.and_false]; rfl
      have hO1 := fun W h => specPolicyOk_c A n c rs e W h hn
      have hO2 := fun W h => specPolicyOk_c B m d rs' e' W h hm
      rw [h1] at hO1
      rw [h2'] at hO2
      rw [e1, e2]
      have HR := Lib.hid hr
      have HQ := Lib.hid hq
      have HO1 := Lib.hid hO1
      have HO2 := Lib.hid hO2
      clear hr hq hO1 hO2 h1 h2 h2' e1 e2
      go_enter Tryd.func31, Tryd.ntmps31
      (go_wp2_with fail); (go_at_call 18; refine (HO1.out _ (HR.out.upB (by go_grown) (by go_size))).mono ?_; rintro e w1 ⟨rfl, b1⟩; obtain ⟨gc1, gf1⟩ := below_get b1; (try simp only [heap_drew, World.size_alloc, World.size_setCell] at gc1 gf1); have s1 := below_via (w := w) (by go_grown) b1; have H1 := s1; have hs1 := b1.size; (try simp at hs1); have z1_0 : w.heap.size < w1.heap.size := (by omega); have z1_1 : w.heap.size + 1 < w1.heap.size := (by omega); have z1_2 : w.heap.size + 1 + 1 < w1.heap.size := (by omega); clear b1)
      (go_wp2_with fail); (go_at_call 18; refine (HO2.out _ ((HQ.out.up s1).upB (by go_grown) (by go_size))).mono ?_; rintro e w2 ⟨rfl, b2⟩; obtain ⟨gc2, gf2⟩ := below_get b2; (try simp only [heap_drew, World.size_alloc, World.size_setCell] at gc2 gf2); have s2 := below_via (w := w1) (by go_grown) b2; have H2 := below_via H1 s2; have hs2 := b2.size; (try simp at hs2); have z2_0 : w.heap.size < w2.heap.size := (by omega); have z2_1 : w.heap.size + 1 < w2.heap.size := (by omega); have z2_2 : w.heap.size + 1 + 1 < w2.heap.size := (by omega); clear b2)
      go_wp2
      refine bodyPost_ret (v := .tuple #[.agg #[.slice none 0 0, .int .i64 0], .bool false]) (by simp [results, Tryd.results31, go_sem, gc2, gc1, z1_2, z2_2]) rfl ?_
      go_light
      exact retPolB_no rfl (by go_grown)
  · have h1' : polOk ⟨rs, e⟩ = false := by simpa using h1
    have e1 : joinP ⟨rs, e⟩ ⟨rs', e'⟩ = ⟨[], 0⟩ := by rw [joinP, h1', Bool.false_and]; rfl
    have e2 : joinB ⟨rs, e⟩ ⟨rs', e'⟩ = false := by rw [joinB, h1', Bool.false_and, Bool.false_and]
    have hO1 := fun W h => specPolicyOk_c A n c rs e W h hn
    rw [h1'] at hO1
    rw [e1, e2]
    have HR := Lib.hid hr
    have HO1 := Lib.hid hO1
    clear hr hq hO1 h1 h1' e1 e2
    go_enter Tryd.func31, Tryd.ntmps31
    (go_wp2_with fail); (go_at_call 18; refine (HO1.out _ (HR.out.upB (by go_grown) (by go_size))).mono ?_; rintro e w1 ⟨rfl, b1⟩; obtain ⟨gc1, gf1⟩ := below_get b1; (try simp only [heap_drew, World.size_alloc, World.size_setCell] at gc1 gf1); have s1 := below_via (w := w) (by go_grown) b1; have H1 := s1; have hs1 := b1.size; (try simp at hs1); have z1_0 : w.heap.size < w1.heap.size := (by omega); have z1_1 : w.heap.size + 1 < w1.heap.size := (by omega); have z1_2 : w.heap.size + 1 + 1 < w1.heap.size := (by omega); clear b1)
    go_wp2
    refine bodyPost_ret (v := .tuple #[.agg #[.slice none 0 0, .int .i64 0], .bool false]) (by simp [results, Tryd.results31, go_sem, gc1]) rfl ?_
    go_light
    exact retPolB_no rfl (by go_grown)
end Go.Proofs.YtljgaepgblakhaaDoor
