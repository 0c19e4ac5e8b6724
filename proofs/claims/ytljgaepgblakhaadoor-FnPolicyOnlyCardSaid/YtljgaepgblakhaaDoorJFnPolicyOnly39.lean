/- PolicyMap of the program. Conditions: each contract's own. -/
import Derived.Test.YtljgaepgblakhaaDoorJFnPolicyOnly34
import Derived.Deep.CutBlock
namespace Go.Proofs.YtljgaepgblakhaaDoor
set_option linter.unusedSimpArgs false
open Go.RowKit
set_option linter.unusedVariables false
set_option linter.unnecessarySimpa false
set_option maxRecDepth 20000
theorem turn_c (a b v : Int) (g4 g5 : Nat) (w : World) (h4 : w.cell? ⟨g4, 0, none⟩ = some (.int .i64 a)) (h5 : w.cell? ⟨g5, 0, none⟩ = some (.int .i64 b)) :
    Calls Tryd.prog 78 #[.int .i64 v, .pointer (some ⟨g4, 0, none⟩), .pointer (some ⟨g5, 0, none⟩)] w (RetW (.int .i64 (turnV a b v)) w) := by
  by_cases hv : v = a
  · have : turnV a b v = b := by simp [turnV, hv]
    rw [this]
    subst hv
    go_enter Tryd.func78, Tryd.ntmps78
    go_wp2
    all_goals go_returns
    all_goals exact ⟨rfl, rfl⟩
  · have : turnV a b v = v := by simp [turnV, hv]
    have hv' : (v == a) = false := by simpa using hv
    rw [this]
    go_enter Tryd.func78, Tryd.ntmps78
    go_wp2
    all_goals go_returns
    all_goals exact ⟨rfl, rfl⟩
theorem policyMap_n1 (A : Option Addr) (n c : Nat) (rs : List Rl) (e a b : Int) (w : World) (hn : n ≤ 9223372036854775807) (hr : RdR w w.heap.size A n rs) (hp : PT w w.heap.size) (h : polOk ⟨rs, e⟩ = false) :
    Calls Tryd.prog 26 #[.agg #[.slice A n c, .int .i64 e], .int .i64 a, .int .i64 b] w (RetPol 35 83 ⟨[], 0⟩ w) := by
  have HR := Lib.hid hr
  have HP := Lib.hid hp
  have hO1 := fun W h h' => policyOk_c A n c rs e W h hn h'
  rw [h] at hO1
  have HO1 := Lib.hid hO1
  clear hr hp h hO1
  go_enter Tryd.func26, Tryd.ntmps26
  go_wp2_with (go_at_call 17; refine (HO1.out _ (HR.out.upB (by go_grown) (by go_size)) ((HP.out.below (by go_grown)).more (by simp; omega))).mono ?_; rintro e w1 ⟨rfl, b1⟩; obtain ⟨gc1, gf1⟩ := below_get b1; (try simp only [heap_drew, World.size_alloc, World.size_setCell] at gc1 gf1); have s1 := below_via (w := w) (by go_grown) b1; have H1 := s1; have hs1 := b1.size; (try simp at hs1); have z1_0 : w.heap.size < w1.heap.size := (by omega); have z1_1 : w.heap.size + 1 < w1.heap.size := (by omega); have z1_2 : w.heap.size + 1 + 1 < w1.heap.size := (by omega); have z1_3 : w.heap.size + 1 + 1 + 1 < w1.heap.size := (by omega); clear b1)
  refine bodyPost_ret (v := .agg #[.slice none 0 0, .int .i64 0]) (by simp [results, Tryd.results26, go_sem, gc1, z1_3]) rfl ?_
  go_light
  exact retPol_no rfl (by go_grown)
theorem policyMap_n2 (A : Option Addr) (n c : Nat) (rs : List Rl) (e a b : Int) (w : World) (hn : n ≤ 9223372036854775807) (hr : RdR w w.heap.size A n rs) (hp : PT w w.heap.size) (h : polOk ⟨rs, e⟩ = true) (h2 : (verB a && verB b) = false) :
    Calls Tryd.prog 26 #[.agg #[.slice A n c, .int .i64 e], .int .i64 a, .int .i64 b] w (RetPol 35 83 ⟨[], 0⟩ w) := by
  have HR := Lib.hid hr
  have HP := Lib.hid hp
  have hO1 := fun W h h' => policyOk_c A n c rs e W h hn h'
  rw [h] at hO1
  have HO1 := Lib.hid hO1
  clear hr hp h hO1
  by_cases ha : verB a = true
  · have hb : verB b = false := by
      rw [ha, Bool.true_and] at h2; exact h2
    clear h2
    go_enter Tryd.func26, Tryd.ntmps26
    go_wp2_with (first
      | (go_at_call 17; refine (HO1.out _ (HR.out.upB (by go_grown) (by go_size)) ((HP.out.below (by go_grown)).more (by simp; omega))).mono ?_; rintro e w1 ⟨rfl, b1⟩; obtain ⟨gc1, gf1⟩ := below_get b1; (try simp only [heap_drew, World.size_alloc, World.size_setCell] at gc1 gf1); have s1 := below_via (w := w) (by go_grown) b1; have H1 := s1; have hs1 := b1.size; (try simp at hs1); have z1_0 : w.heap.size < w1.heap.size := (by omega); have z1_1 : w.heap.size + 1 < w1.heap.size := (by omega); have z1_2 : w.heap.size + 1 + 1 < w1.heap.size := (by omega); have z1_3 : w.heap.size + 1 + 1 + 1 < w1.heap.size := (by omega); clear b1)
      | (go_at_call 74; refine (verdictOk_c _ _).mono ?_; rintro e w' ⟨rfl, rfl⟩))
    refine bodyPost_ret (v := .agg #[.slice none 0 0, .int .i64 0]) (by simp [results, Tryd.results26, go_sem, gc1, z1_3]) rfl ?_
    go_light
    exact retPol_no rfl (by go_grown)
  · have ha : verB a = false := by simpa using ha
    clear h2
    go_enter Tryd.func26, Tryd.ntmps26
    go_wp2_with (first
      | (go_at_call 17; refine (HO1.out _ (HR.out.upB (by go_grown) (by go_size)) ((HP.out.below (by go_grown)).more (by simp; omega))).mono ?_; rintro e w1 ⟨rfl, b1⟩; obtain ⟨gc1, gf1⟩ := below_get b1; (try simp only [heap_drew, World.size_alloc, World.size_setCell] at gc1 gf1); have s1 := below_via (w := w) (by go_grown) b1; have H1 := s1; have hs1 := b1.size; (try simp at hs1); have z1_0 : w.heap.size < w1.heap.size := (by omega); have z1_1 : w.heap.size + 1 < w1.heap.size := (by omega); have z1_2 : w.heap.size + 1 + 1 < w1.heap.size := (by omega); have z1_3 : w.heap.size + 1 + 1 + 1 < w1.heap.size := (by omega); clear b1)
      | (go_at_call 74; refine (verdictOk_c _ _).mono ?_; rintro e w' ⟨rfl, rfl⟩))
    refine bodyPost_ret (v := .agg #[.slice none 0 0, .int .i64 0]) (by simp [results, Tryd.results26, go_sem, gc1, z1_3]) rfl ?_
    go_light
    exact retPol_no rfl (by go_grown)
theorem policyMap_no (A : Option Addr) (n c : Nat) (rs : List Rl) (e a b : Int) (w : World) (hn : n ≤ 9223372036854775807) (hr : RdR w w.heap.size A n rs) (hp : PT w w.heap.size) (h : (polOk ⟨rs, e⟩ && verB a && verB b) = false) :
    Calls Tryd.prog 26 #[.agg #[.slice A n c, .int .i64 e], .int .i64 a, .int .i64 b] w (RetPol 35 83 ⟨[], 0⟩ w) := by
  by_cases h1 : polOk ⟨rs, e⟩ = true
  · refine policyMap_n2 A n c rs e a b w hn hr hp h1 ?_
    rw [h1, Bool.true_and] at h; exact h
  · exact policyMap_n1 A n c rs e a b w hn hr hp (by simpa using h1)
theorem blk_four (w : World) (t s r u : Nat) (us vs xs ys : List Value) : Blk ((((w.alloc (.cells us.toArray t)).alloc (.cells vs.toArray s)).alloc (.cells xs.toArray r)).alloc (.cells ys.toArray u)) w.heap.size t us ∧ Blk ((((w.alloc (.cells us.toArray t)).alloc (.cells vs.toArray s)).alloc (.cells xs.toArray r)).alloc (.cells ys.toArray u)) (w.heap.size + 1) s vs ∧ Blk ((((w.alloc (.cells us.toArray t)).alloc (.cells vs.toArray s)).alloc (.cells xs.toArray r)).alloc (.cells ys.toArray u)) (w.heap.size + 1 + 1) r xs ∧ Blk ((((w.alloc (.cells us.toArray t)).alloc (.cells vs.toArray s)).alloc (.cells xs.toArray r)).alloc (.cells ys.toArray u)) (w.heap.size + 1 + 1 + 1) u ys := by
  obtain ⟨h1, h2, h3⟩ := blk_three w t s r us vs xs
  refine ⟨h1.alloc _, h2.alloc _, h3.alloc _, ?_⟩
  have := Blk.new (((w.alloc (.cells us.toArray t)).alloc (.cells vs.toArray s)).alloc (.cells xs.toArray r)) u ys
  rwa [World.size_alloc, World.size_alloc, World.size_alloc] at this
theorem own_not {w : World} {base e size n c g T : Nat} {xs cs : List Value} (h : w.ownsRow base e size (.slice (some ⟨g, 0, none⟩) n c) n xs) (hX : Blk w g T cs) (hT : e ≠ T) : False := by
  rcases h.2 with ⟨h1, _⟩ | ⟨g1, c1, cur1, hv, _, hh1, _⟩
  · cases h1
  · have e1 : g = g1 := by injection hv with hv; injection hv with hv; injection hv
    subst e1
    unfold Blk at hX
    rw [hh1] at hX
    injection hX with h2
    injection h2 with _ e3 _
    exact hT e3
/-- The policy if it is one, else none. -/
def RetIf (ER ET : Nat) (ok : Bool) (p : Pol) (w : World) : Ending → World → Prop := RetPol ER ET (if ok then p else ⟨[], 0⟩) w
set_option maxHeartbeats 4000000 in
theorem policyMap_yes (A : Option Addr) (n c : Nat) (rs : List Rl) (e a b : Int) (w : World) (hn : n ≤ 9223372036854775807) (hr : RdR w w.heap.size A n rs) (hp : PT w w.heap.size) (h1 : polOk ⟨rs, e⟩ = true) (ha : verB a = true) (hb : verB b = true) (ok : Bool) (h3 : polOk ⟨rs.map (mapR a b), turnV a b e⟩ = ok) :
    Calls Tryd.prog 26 #[.agg #[.slice A n c, .int .i64 e], .int .i64 a, .int .i64 b] w (RetIf 35 83 ok ⟨rs.map (mapR a b), turnV a b e⟩ w) := by
  have hl1 := hr.1
  subst hl1
  have HR := Lib.hid hr
  have HP := Lib.hid hp
  have hA8 := (polOk_rules h1).1
  have hO1 := fun W h h' => policyOk_c A rs.length c rs e W h hn h'
  rw [h1] at hO1
  have HO1 := Lib.hid hO1
  have HVA := Lib.hid (fun W => (show Calls Tryd.prog 74 #[.int .i64 a] W (RetW (.bool true) W) from by have := verdictOk_c a W; rwa [ha] at this))
  have HVB := Lib.hid (fun W => (show Calls Tryd.prog 74 #[.int .i64 b] W (RetW (.bool true) W) from by have := verdictOk_c b W; rwa [hb] at this))
  have HC1 := Lib.hid (fun W h => copyRules_c A rs.length c rs W h (by omega) (fun r hr => by have := polOk_ts h1 r hr; omega))
  have HC3 := Lib.hid (fun A n c W hn h h' => okPolicy_c A n c (rs.map (mapR a b)) (turnV a b e) W hn h h' ok h3)
  have HB4 := Lib.hid (blk_four w 25 3 3 25 [.slice A rs.length c, .int .i64 e] [.int .i64 a] [.int .i64 b] [.slice none 0 0, .int .i64 0])
  clear hr hp hO1 h1 h3 ha hb
  go_enter Tryd.func26, Tryd.ntmps26
  go_upto_region 4 with (first
      | (go_at_call 17; refine (HO1.out _ (HR.out.upB (by go_grown) (by go_size)) ((HP.out.below (by go_grown)).more (by simp; omega))).mono ?_; rintro e w1 ⟨rfl, b1⟩; have X0 := Lib.hid (HB4.out.1.up b1); have X1 := Lib.hid (HB4.out.2.1.up b1); have X2 := Lib.hid (HB4.out.2.2.1.up b1); have X3 := Lib.hid (HB4.out.2.2.2.up b1); obtain ⟨gc1, gf1⟩ := below_get b1; (try simp only [heap_drew, World.size_alloc, World.size_setCell] at gc1 gf1); have s1 := below_via (w := w) (by go_grown) b1; have H1 := s1; have hs1 := b1.size; (try simp at hs1); have z1_0 : w.heap.size < w1.heap.size := (by omega); have z1_1 : w.heap.size + 1 < w1.heap.size := (by omega); have z1_2 : w.heap.size + 1 + 1 < w1.heap.size := (by omega); have z1_3 : w.heap.size + 1 + 1 + 1 < w1.heap.size := (by omega); clear b1)
      | (go_at_call 74; refine (HVA.out _).mono ?_; rintro e w' ⟨rfl, rfl⟩)
      | (go_at_call 74; refine (HVB.out _).mono ?_; rintro e w' ⟨rfl, rfl⟩))
  have x00 := X0.out.cell (i := 0) rfl
  have x01 := X0.out.cell (i := 1) rfl
  have x1 := X1.out.cell (i := 0) rfl
  have x2 := X2.out.cell (i := 0) rfl
  go_cut [8] (fun v8 wx => ∃ (g : Nat) (A2 : Option Addr) (c2 : Nat) (qs : List (Rl × Value)), v8 = .pointer (some ⟨g, 0, none⟩) ∧ w1.heap.size ≤ g ∧ Hid (Blk wx g 25 [.slice A2 rs.length c2, .int .i64 (turnV a b e)]) ∧ Hid (OP wx (w.heap.size + 1 + 1 + 1 + 1) wx.heap.size 35 83 A2 rs.length c2 qs) ∧ Hid (rls qs = rs) ∧ Hid (Apart qs) ∧ Hid (Blk wx (w.heap.size + 1) 3 [.int .i64 a]) ∧ Hid (Blk wx (w.heap.size + 1 + 1) 3 [.int .i64 b]) ∧ Hid (Blk wx (w.heap.size + 1 + 1 + 1) 25 [.slice none 0 0, .int .i64 0]) ∧ Hid (Below w.heap.size w wx))
  case first =>
    go_region_held3 (fun w' => w'.cell? ⟨w.heap.size, 0, none⟩ = some (.slice A rs.length c) ∧ w'.cell? ⟨w.heap.size, 1, none⟩ = some (.int .i64 e) ∧ w'.cell? ⟨w.heap.size + 1, 0, none⟩ = some (.int .i64 a) ∧ w'.cell? ⟨w.heap.size + 1 + 1, 0, none⟩ = some (.int .i64 b)) (simp [go_sem, *])
      (first
        | (go_at_call 78; refine (turn_c a b e (w.heap.size + 1) (w.heap.size + 1 + 1) _ (by simp [go_sem, *]) (by simp [go_sem, *])).mono ?_; rintro e w' ⟨rfl, rfl⟩)
        | (go_at_call 76; refine (HC1.out _ ((HR.out.below (show Below w.heap.size w _ from below_via H1 (by go_grown))).more (by (try simp); omega))).mono ?_; rintro e w2 ⟨A2, c2, qs, rfl, e2, o2, p2, b2⟩; have R2 := Lib.hid (o2.wide (show w.heap.size + 1 + 1 + 1 + 1 ≤ _ by (try simp) <;> omega) (Nat.le_refl _)); have P2 := Lib.hid p2; have E2 := Lib.hid e2; clear o2 p2 e2; have BB2 := b2; obtain ⟨gc2, gf2⟩ := below_get b2; (try simp only [heap_drew, World.size_alloc, World.size_setCell] at gc2 gf2); have s2 := below_via (w := w1) (by go_grown) b2; have H2 := below_via H1 s2; have hs2 := b2.size; (try simp at hs2); have z2_0 : w.heap.size < w2.heap.size := (by omega); have z2_1 : w.heap.size + 1 < w2.heap.size := (by omega); have z2_2 : w.heap.size + 1 + 1 < w2.heap.size := (by omega); have z2_3 : w.heap.size + 1 + 1 + 1 < w2.heap.size := (by omega); clear b2))
    all_goals
      go_wp2_with fail
      go_meet
      first
        | exact ⟨w2.heap.size, A2, c2, qs, rfl, by omega, Blk.new w2 25 [.slice A2 rs.length c2, .int .i64 (turnV a b e)], Lib.hid ((R2.out.up (by go_grown)).wide (Nat.le_refl _) (by simp)), E2, P2, X1.out.up (show Below w1.heap.size w1 _ from by go_grown), X2.out.up (show Below w1.heap.size w1 _ from by go_grown), X3.out.up (show Below w1.heap.size w1 _ from by go_grown), by show Below _ _ _; go_grown⟩
        | (have X8 := Lib.hid (((Blk.new w1 25 [.slice none 0 0, .int .i64 0]).drew).up BB2)
           exact ⟨w1.heap.size, A2, c2, qs, rfl, by omega, (X8.out.set_ 0 _).set_ 1 _, Lib.hid (((R2.out.setB (o := 0) X8.out (by decide) (by decide) _).setB (o := 1) (X8.out.set_ 0 _) (by decide) (by decide) _).wide (Nat.le_refl _) (by simp)), E2, P2, X1.out.up (show Below w1.heap.size w1 _ from by go_grown), X2.out.up (show Below w1.heap.size w1 _ from by go_grown), X3.out.up (show Below w1.heap.size w1 _ from by go_grown), by show Below _ _ _; go_grown⟩)
  case rest =>
    obtain ⟨g, A2, c2, qs, rfl, hg, HX, HO, HE, HA, K1, K2, K3, HW⟩ := hcut
    clear HB4 HO1 HVA HVB HC1 HR X0 X1 X2 X3 x00 x01 x1 x2
    have hl := HO.out.len
    have x0 := HX.out.cell (i := 0) rfl
    have hgl := HX.out.lt
    go_wp2
    go_loopg [36] rs.length (fun gk i wr => ∃ (k : Nat) (zs : List (Rl × Value)), gk + k = rs.length ∧ i = .int .i64 k ∧ Hid (OP wr (w.heap.size + 1 + 1 + 1 + 1) wc.heap.size 35 83 A2 rs.length c2 zs) ∧ Hid (zs = (qs.take k).map (mapQ a b) ++ qs.drop k) ∧ Hid (Blk wr g 25 [.slice A2 rs.length c2, .int .i64 (turnV a b e)]) ∧ Hid (Blk wr (w.heap.size + 1) 3 [.int .i64 a]) ∧ Hid (Blk wr (w.heap.size + 1 + 1) 3 [.int .i64 b]) ∧ Hid (Blk wr (w.heap.size + 1 + 1 + 1) 25 [.slice none 0 0, .int .i64 0]) ∧ Hid (Below w.heap.size w wr) ∧ wc.heap.size ≤ wr.heap.size)
    case atStart => exact ⟨0, qs, by omega, rfl, HO, Lib.hid (by simp), HX, K1, K2, K3, HW, Nat.le_refl _⟩
    case round =>
      obtain ⟨k, zs, hgk, rfl, GO, GZ, GX, G1, G2, G3, GW, hz⟩ := hrel
      have x0 := GX.out.cell (i := 0) rfl
      have x1 := GX.out.cell (i := 1) rfl
      have xf := GX.out.free
      have y1 := G1.out.cell (i := 0) rfl
      have y2 := G2.out.cell (i := 0) rfl
      have hbs := GW.out.size
      by_cases hlt : k < rs.length
      · obtain ⟨gk, rfl⟩ : ∃ m, gk = m + 1 := ⟨gk - 1, by omega⟩
        obtain ⟨gr, q, TA, tc, rfl, hlo, hhi, hgs, hq, ht, c0, c1, c2', c3, cf, htl⟩ := GO.out.at_ hlt
        have hqq : qs[k]? = some q := by
          obtain ⟨q', hq'⟩ := some_at (l := qs) hl hlt
          have h1 := upto_at (mapQ a b) hq'
          rw [← GZ.out, hq] at h1
          injection h1 with h1
          rw [h1]; exact hq'
        have HQ := Lib.hid hq
        have HQQ := Lib.hid hqq
        clear hq hqq ht
        go_wp2_with fail
        go_region_law (first
          | (go_simp; (go_at_call 78; refine (turn_c a b q.1.v (w.heap.size + 1) (w.heap.size + 1 + 1) _ (by simp [go_sem, *]) (by simp [go_sem, *])).mono ?_; rintro e w' ⟨rfl, rfl⟩)))
        all_goals
          go_wp2_with fail
          go_roundg gk
          case measure => omega
          case rel =>
            go_light
            refine ⟨k + 1, zs.set k (mapQ a b q), by omega, by go_num, Lib.hid (GO.out.put1 (by decide) HQ.out (turnV a b q.1.v)).drew, Lib.hid ?_, (GX.out.far (fun e => by subst e; exact own_not GO.out.own GX.out (by decide)) _).drew, (G1.out.far (by (try simp) <;> omega) _).drew, (G2.out.far (by (try simp) <;> omega) _).drew, (G3.out.far (by (try simp) <;> omega) _).drew, (by have := GW.out; show Below _ _ _; go_grown), by (try simp) <;> omega⟩
            rw [GZ.out]
            exact upto_set (mapQ a b) HQQ.out
      · obtain rfl : k = rs.length := by omega
        have hzm := GZ.out
        rw [List.take_of_length_le (by omega), List.drop_of_length_le (by omega), List.append_nil] at hzm
        have z0 := G3.out.cell (i := 0) rfl
        have z1 := G3.out.cell (i := 1) rfl
        have zf := G3.out.free
        have hgr := GX.out.lt
        have hne : g ≠ w.heap.size + 1 + 1 + 1 := by omega
        have hne' : w.heap.size + 1 + 1 + 1 ≠ g := by omega
        unfold RetIf
        cases ok
        all_goals
          simp only [if_true, if_false, Bool.false_eq_true, ↓reduceIte] at HC3 ⊢
          (go_wp2_with fail); (go_at_call 75; refine (HC3.out A2 rs.length c2 _ (by omega) (by have h := OP.rd (GO.out.up (by go_grown)); rw [hzm, mapQ_rls, HE.out] at h; exact h) (((HP.out.below (show Below w.heap.size w _ from below_via GW.out (by go_grown))).more (by (try simp) <;> omega)))).mono ?_; rintro e w4 ⟨rfl, b4⟩; have R4 := Lib.hid (GO.out.up (below_via (by go_grown) b4)); have X4 := Lib.hid (GX.out.up (below_via (by go_grown) b4)); have Z4 := Lib.hid (G3.out.up (below_via (by go_grown) b4)); have H4 := below_via GW.out (below_via (by go_grown) b4); have hs4 := b4.size; (try simp at hs4); clear b4; have x40 := X4.out.cell (i := 0) rfl; have x41 := X4.out.cell (i := 1) rfl; have x4f := X4.out.free; have z40 := Z4.out.cell (i := 0) rfl; have z41 := Z4.out.cell (i := 1) rfl; have z4f := Z4.out.free)
          go_wp2
          first
            | (refine bodyPost_ret (v := .agg #[.slice none 0 0, .int .i64 0]) (by simp [results, Tryd.results26, go_sem, z40, z41, z4f, x40, x41, x4f, hne, hne']) rfl ?_; go_light; exact retPol_no rfl (by go_grown))
            | (refine bodyPost_ret (v := .agg #[.slice A2 rs.length c2, .int .i64 (turnV a b e)]) (by simp [results, Tryd.results26, go_sem, z40, z41, z4f, x40, x41, x4f, hne, hne']) rfl ?_
               go_light
               have el : (rs.map (mapR a b)).length = rs.length := List.length_map _
               refine ⟨A2, c2, zs, by simp [el], (by rw [hzm, mapQ_rls, HE.out]; rfl), ?_, by rw [hzm]; exact HA.out.map _ _, by go_grown⟩
               show OP _ _ _ _ _ _ (rs.map _).length _ _
               rw [el]
               have RS := (R4.out.setB (o := 0) X4.out (by decide) (by decide) (.slice A2 rs.length c2)).setB (o := 1) (X4.out.set_ 0 _) (by decide) (by decide) (.int .i64 (turnV a b e))
               exact ((RS.set_ (g := w.heap.size + 1 + 1 + 1) (o := 0) (.inl (by omega)) _).set_ (g := w.heap.size + 1 + 1 + 1) (o := 1) (.inl (by omega)) _).wide (by omega) (by (try simp) <;> omega))
theorem policyMap_c (A : Option Addr) (n c : Nat) (rs : List Rl) (e a b : Int) (w : World) (hn : n ≤ 9223372036854775807) (hr : RdR w w.heap.size A n rs) (hp : PT w w.heap.size) :
    Calls Tryd.prog 26 #[.agg #[.slice A n c, .int .i64 e], .int .i64 a, .int .i64 b] w (RetPol 35 83 (mapP a b ⟨rs, e⟩) w) := by
  unfold mapP
  by_cases h : (polOk ⟨rs, e⟩ && verB a && verB b) = true
  · rw [if_pos h]
    simp only [Bool.and_eq_true] at h
    exact policyMap_yes A n c rs e a b w hn hr hp h.1.1 h.1.2 h.2 _ rfl
  · rw [if_neg h]
    exact policyMap_no A n c rs e a b w hn hr hp (by simpa using h)
end Go.Proofs.YtljgaepgblakhaaDoor
