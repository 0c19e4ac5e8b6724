/- PolicyMap: both sides. Conditions: each contract's own. -/
import Derived.Test.YtljgaepgblakhaaDoorJFnPolicyOnly32
namespace Go.Proofs.YtljgaepgblakhaaDoor
set_option linter.unusedSimpArgs false
open Go.RowKit
set_option linter.unusedVariables false
set_option linter.unnecessarySimpa false
set_option maxRecDepth 20000
def turnV (a b v : Int) : Int := if v = a then b else v
def mapR (a b : Int) (r : Rl) : Rl := ⟨turnV a b r.v, r.lo, r.hi, r.ts⟩
/-- What both sides make of a policy. -/
def mapP (a b : Int) (p : Pol) : Pol := if polOk p && verB a && verB b then okP ⟨p.rs.map (mapR a b), turnV a b p.els⟩ else ⟨[], 0⟩
def mapQ (a b : Int) (q : Rl × Value) : Rl × Value := (mapR a b q.1, q.2)
theorem mapQ_rls (a b : Int) (qs : List (Rl × Value)) : rls (qs.map (mapQ a b)) = (rls qs).map (mapR a b) := by simp [rls, mapQ]
theorem upto_at {α : Type} (f : α → α) {l : List α} {k : Nat} {q : α} (h : l[k]? = some q) : ((l.take k).map f ++ l.drop k)[k]? = some q := by
  have hk := (List.getElem?_eq_some_iff.1 h).1
  rw [List.getElem?_append_right (by simp; omega)]
  simp [List.length_take, Nat.min_eq_left (Nat.le_of_lt hk), h]
theorem upto_set {α : Type} (f : α → α) {l : List α} {k : Nat} {q : α} (h : l[k]? = some q) : ((l.take k).map f ++ l.drop k).set k (f q) = (l.take (k + 1)).map f ++ l.drop (k + 1) := by
  have hk := (List.getElem?_eq_some_iff.1 h).1
  have hq := (List.getElem?_eq_some_iff.1 h).2
  rw [List.set_append_right _ _ (by simp; omega)]
  have e : k - ((l.take k).map f).length = 0 := by simp; omega
  rw [e, List.drop_eq_getElem_cons hk, hq, List.set_cons_zero, List.take_add_one, h]
  simp
theorem mapQ_same {a b : Int} {q : Rl × Value} (h : q.1.v ≠ a) : mapQ a b q = q := by
  obtain ⟨⟨v, lo, hi, ts⟩, t⟩ := q
  simp [mapQ, mapR, turnV] at h ⊢
  intro e; exact absurd e h
theorem mapQ_turn {a b : Int} {q : Rl × Value} (h : q.1.v = a) : mapQ a b q = (⟨b, q.1.lo, q.1.hi, q.1.ts⟩, q.2) := by
  simp [mapQ, mapR, turnV, h]
/-- No policy, and nothing of it in memory. -/
theorem retPol_no {ER ET : Nat} {w w' : World} {e : Ending} (he : e = .returned (.agg #[.slice none 0 0, .int .i64 0])) (hb : Below w.heap.size w w') : RetPol ER ET ⟨[], 0⟩ w e w' :=
  ⟨none, 0, [], he, rfl, OP.nil_ _ _ _ _ _, Apart.nil_, hb⟩
theorem mapQ_ts (a b : Int) (q : Rl × Value) : (mapQ a b q).1.ts = q.1.ts := rfl
theorem verB_in {a : Int} (h : verB a = true) : 1 ≤ a ∧ a ≤ 4 := by simpa [verB] using h
theorem Apart.map {qs : List (Rl × Value)} (h : Apart qs) (a b : Int) : Apart (qs.map (mapQ a b)) := h.snd (by simp [mapQ])
set_option maxHeartbeats 4000000 in
theorem specPolicyMap_yes (A : Option Addr) (n c : Nat) (rs : List Rl) (e a b : Int) (w : World) (hn : n ≤ 9223372036854775807) (hr : RdR w w.heap.size A n rs) (h1 : polOk ⟨rs, e⟩ = true) (ha : verB a = true) (hb : verB b = true) (ok : Bool) (h3 : polOk ⟨rs.map (mapR a b), turnV a b e⟩ = ok) :
    Calls Tryd.prog 27 #[.agg #[.slice A n c, .int .i64 e], .int .i64 a, .int .i64 b] w (RetPol 35 83 (if ok then ⟨rs.map (mapR a b), turnV a b e⟩ else ⟨[], 0⟩) w) := by
  have hl1 := hr.1
  subst hl1
  have HR := Lib.hid hr
  have hA8 := (polOk_rules h1).1
  have hO1 := fun W h => specPolicyOk_c A rs.length c rs e W h hn
  have hO3 := fun A n c W h hn => specPolicyOk_c A n c (rs.map (mapR a b)) (turnV a b e) W h hn
  rw [h1] at hO1
  rw [h3] at hO3
  have va : decide (1 ≤ a ∧ a ≤ 4) = true := by have := verB_in ha; simp; omega
  have vb : decide (1 ≤ b ∧ b ≤ 4) = true := by have := verB_in hb; simp; omega
  have HO1 := Lib.hid hO1
  have HC1 := Lib.hid (fun W h => l2Copy_c A rs.length c rs e W h (by omega) (fun r hr => by have := polOk_ts h1 r hr; omega))
  have HO3 := Lib.hid hO3
  have HB0 := Lib.hid (blk_two w 25 25 [.slice A rs.length c, .int .i64 e] [.slice none 0 0, .int .i64 0])
  clear hr hO1 hO3 h1 h3 ha hb
  cases ok
  all_goals
    simp only [if_true, if_false, Bool.false_eq_true, ↓reduceIte]
    go_enter Tryd.func27, Tryd.ntmps27
    go_wp2_with (first
      | (go_at_call 18; refine (HO1.out _ (HR.out.upB (by go_grown) (by go_size))).mono ?_; rintro e w1 ⟨rfl, b1⟩; have B1 := Lib.hid (HB0.out.2.up b1); obtain ⟨gc1, gf1⟩ := below_get b1; (try simp only [heap_drew, World.size_alloc, World.size_setCell] at gc1 gf1); have s1 := below_via (w := w) (by go_grown) b1; have H1 := s1; have hs1 := b1.size; (try simp at hs1); have z1_0 : w.heap.size < w1.heap.size := (by omega); have z1_1 : w.heap.size + 1 < w1.heap.size := (by omega); clear b1)
      | (go_at_call 70; refine (l1In_c _ _ _ _).mono ?_; rintro e w' ⟨rfl, rfl⟩)
      | (go_at_call 77; refine (HC1.out _ ((HR.out.below (show Below w.heap.size w _ from below_via H1 (by go_grown))).more (by (try simp); omega))).mono ?_; rintro e w2 ⟨A2, c2, qs, rfl, e2, o2, p2, b2⟩; have R2 := Lib.hid (o2.wide (show w.heap.size + 1 + 1 ≤ _ by (try simp) <;> omega) (Nat.le_refl _)); have P2 := Lib.hid p2; have E2 := Lib.hid e2; clear o2 p2 e2; have B2 := Lib.hid (B1.out.up (below_via (by go_grown) b2)); obtain ⟨gc2, gf2⟩ := below_get b2; (try simp only [heap_drew, World.size_alloc, World.size_setCell] at gc2 gf2); have s2 := below_via (w := w1) (by go_grown) b2; have H2 := below_via H1 s2; have hs2 := b2.size; (try simp at hs2); have z2_0 : w.heap.size < w2.heap.size := (by omega); have z2_1 : w.heap.size + 1 < w2.heap.size := (by omega); clear b2))
    have HX := Lib.hid (Blk.new w2 25 [.slice A2 rs.length c2, .int .i64 e])
    have HB := Lib.hid (B2.out.alloc (.cells #[.slice A2 rs.length c2, .int .i64 e] 25))
    go_loopg [8] rs.length (fun gk i wr => ∃ (k : Nat) (zs : List (Rl × Value)), gk + k = rs.length ∧ i = .int .i64 k ∧ Hid (OP wr (w.heap.size + 1 + 1) w2.heap.size 35 83 A2 rs.length c2 zs) ∧ Hid (zs = (qs.take k).map (mapQ a b) ++ qs.drop k) ∧ Hid (Blk wr w2.heap.size 25 [.slice A2 rs.length c2, .int .i64 e]) ∧ Hid (Blk wr (w.heap.size + 1) 25 [.slice none 0 0, .int .i64 0]) ∧ Hid (Below w.heap.size w wr) ∧ w2.heap.size < wr.heap.size)
    case atStart => exact ⟨0, qs, by omega, rfl, Lib.hid (R2.out.up (by go_grown)), Lib.hid (by simp), HX, HB, Lib.hid (below_via H2 (by go_grown)), by simp⟩
    case round =>
      obtain ⟨k, zs, hgk, rfl, HO, HZ, BX, BB, HW, hz⟩ := hrel
      have x0 := BX.out.cell (i := 0) rfl
      have x1 := BX.out.cell (i := 1) rfl
      have xf := BX.out.free
      have hbs := HW.out.size
      by_cases hlt : k < rs.length
      · obtain ⟨gk, rfl⟩ : ∃ m, gk = m + 1 := ⟨gk - 1, by omega⟩
        obtain ⟨g, q, TA, tc, rfl, hlo, hhi, hgs, hq, ht, c0, c1, c2', c3, cf, htl⟩ := HO.out.at_ hlt
        have hqq : qs[k]? = some q := by
          obtain ⟨q', hq'⟩ := some_at (l := qs) R2.out.len hlt
          have h1 := upto_at (mapQ a b) hq'
          rw [← HZ.out, hq] at h1
          injection h1 with h1
          rw [h1]; exact hq'
        have HQ := Lib.hid hq
        have HQQ := Lib.hid hqq
        clear hq hqq ht
        go_wp2
        all_goals
          go_roundg gk
          case measure => omega
          case rel =>
            go_light
            first
              | (have hv : q.1.v = a := (by rename ((q.1.v == a) = true) => h; simpa using h)
                 refine ⟨k + 1, zs.set k (⟨b, q.1.lo, q.1.hi, q.1.ts⟩, q.2), by omega, by go_num, Lib.hid (HO.out.put1 (by decide) HQ.out b), Lib.hid ?_, BX.out.far (by (try simp) <;> omega) _, BB.out.far (by (try simp) <;> omega) _, Lib.hid (HW.out.setCell (by (try simp) <;> omega) _), by (try simp) <;> omega⟩
                 rw [HZ.out, ← mapQ_turn hv]
                 exact upto_set (mapQ a b) HQQ.out)
              | (have hv : q.1.v ≠ a := (by first | (rename ((q.1.v == a) = false) => h; simpa using h) | (rename (q.1.v ≠ a) => h; exact h) | (rename (¬ _ = a) => h; exact h))
                 refine ⟨k + 1, zs, by omega, by go_num, HO, Lib.hid ?_, BX, BB, HW, hz⟩
                 have h1 := upto_set (mapQ a b) HQQ.out
                 rw [mapQ_same hv, ← HZ.out, set_same HQ.out] at h1
                 exact h1)
      · obtain rfl : k = rs.length := by omega
        have hzm := HZ.out
        rw [List.take_of_length_le (by have := R2.out.len; omega), List.drop_of_length_le (by have := R2.out.len; omega), List.append_nil] at hzm
        have b0 := BB.out.cell (i := 0) rfl
        have b1 := BB.out.cell (i := 1) rfl
        have bf := BB.out.free
        have hne : w.heap.size + 1 ≠ w2.heap.size := by omega
        have hne' : w2.heap.size ≠ w.heap.size + 1 := by omega
        have hbw : w.heap.size + 1 < wr.heap.size := by omega
        by_cases he : e = a
        · subst he
          have ht : turnV e b e = b := by simp [turnV]
          rw [ht] at HO3
          have RW := Lib.hid (HO.out.set_ (g := w2.heap.size) (o := 1) (.inr (Nat.le_refl _)) (.int .i64 b))
          (go_wp2_with fail); (go_at_call 18; refine (HO3.out A2 rs.length c2 _ (by have h := OP.rd (RW.out.up (by go_grown)); rw [hzm, mapQ_rls, E2.out] at h; exact h) (by omega)).mono ?_; rintro e w4 ⟨rfl, b4⟩; have R4 := Lib.hid (RW.out.up (below_via (by go_grown) b4)); have H4 := below_via (HW.out.setCell (p := ⟨w2.heap.size, 1, none⟩) (by (try simp) <;> omega) (.int .i64 b)) (below_via (by go_grown) b4); obtain ⟨gc4, gf4⟩ := below_get b4; (try simp only [heap_drew, World.size_alloc, World.size_setCell] at gc4 gf4); have hs4 := b4.size; (try simp at hs4); clear b4)
          go_wp2
          first
            | (refine bodyPost_ret (v := .agg #[.slice none 0 0, .int .i64 0]) (by simp [results, Tryd.results27, go_sem, gc4, gf4, b0, b1, bf, hne, hne', hbw]) rfl ?_; go_light; exact retPol_no rfl (by go_grown))
            | (refine bodyPost_ret (v := .agg #[.slice A2 rs.length c2, .int .i64 b]) (by simp [results, Tryd.results27, go_sem, gc4, gf4, b0, b1, bf, hne, hne', hbw]) rfl ?_
               go_light
               have el : (rs.map (mapR e b)).length = rs.length := List.length_map _
               refine ⟨A2, c2, zs, by simp [el, ht], by rw [hzm, mapQ_rls, E2.out], ?_, by rw [hzm]; exact P2.out.map _ _, by go_grown⟩
               show OP _ _ _ _ _ _ (rs.map _).length _ _
               rw [el]
               exact ((R4.out.set_ (g := w.heap.size + 1) (o := 0) (.inl (by omega)) _).set_ (g := w.heap.size + 1) (o := 1) (.inl (by omega)) _).wide (by omega) (by (try simp) <;> omega))
        · have ht : turnV a b e = e := by simp [turnV, he]
          have he' : (e == a) = false := by simpa using he
          rw [ht] at HO3
          have RW := Lib.hid (HO.out)
          (go_wp2_with fail); (go_at_call 18; refine (HO3.out A2 rs.length c2 _ (by have h := OP.rd (RW.out.up (by go_grown)); rw [hzm, mapQ_rls, E2.out] at h; exact h) (by omega)).mono ?_; rintro e w4 ⟨rfl, b4⟩; have R4 := Lib.hid (RW.out.up (below_via (by go_grown) b4)); have H4 := below_via HW.out (below_via (by go_grown) b4); obtain ⟨gc4, gf4⟩ := below_get b4; (try simp only [heap_drew, World.size_alloc, World.size_setCell] at gc4 gf4); have hs4 := b4.size; (try simp at hs4); clear b4)
          go_wp2
          first
            | (refine bodyPost_ret (v := .agg #[.slice none 0 0, .int .i64 0]) (by simp [results, Tryd.results27, go_sem, gc4, gf4, b0, b1, bf, hne, hne', hbw]) rfl ?_; go_light; exact retPol_no rfl (by go_grown))
            | (refine bodyPost_ret (v := .agg #[.slice A2 rs.length c2, .int .i64 e]) (by simp [results, Tryd.results27, go_sem, gc4, gf4, b0, b1, bf, hne, hne', hbw]) rfl ?_
               go_light
               have el : (rs.map (mapR a b)).length = rs.length := List.length_map _
               refine ⟨A2, c2, zs, by simp [el, ht], by rw [hzm, mapQ_rls, E2.out], ?_, by rw [hzm]; exact P2.out.map _ _, by go_grown⟩
               show OP _ _ _ _ _ _ (rs.map _).length _ _
               rw [el]
               exact ((R4.out.set_ (g := w.heap.size + 1) (o := 0) (.inl (by omega)) _).set_ (g := w.heap.size + 1) (o := 1) (.inl (by omega)) _).wide (by omega) (by (try simp) <;> omega))

theorem specPolicyMap_n1 (A : Option Addr) (n c : Nat) (rs : List Rl) (e a b : Int) (w : World) (hn : n ≤ 9223372036854775807) (hr : RdR w w.heap.size A n rs) (h : polOk ⟨rs, e⟩ = false) :
    Calls Tryd.prog 27 #[.agg #[.slice A n c, .int .i64 e], .int .i64 a, .int .i64 b] w (RetPol 35 83 ⟨[], 0⟩ w) := by
  have HR := Lib.hid hr
  have hO1 := fun W h => specPolicyOk_c A n c rs e W h hn
  rw [h] at hO1
  have HO1 := Lib.hid hO1
  clear hr h hO1
  go_enter Tryd.func27, Tryd.ntmps27
  go_wp2_with (go_at_call 18; refine (HO1.out _ (HR.out.upB (by go_grown) (by go_size))).mono ?_; rintro e w1 ⟨rfl, b1⟩; obtain ⟨gc1, gf1⟩ := below_get b1; (try simp only [heap_drew, World.size_alloc, World.size_setCell] at gc1 gf1); have s1 := below_via (w := w) (by go_grown) b1; have H1 := s1; have hs1 := b1.size; (try simp at hs1); have z1_0 : w.heap.size < w1.heap.size := (by omega); have z1_1 : w.heap.size + 1 < w1.heap.size := (by omega); clear b1)
  refine bodyPost_ret (v := .agg #[.slice none 0 0, .int .i64 0]) (by simp [results, Tryd.results27, go_sem, gc1, z1_1]) rfl ?_
  go_light
  exact retPol_no rfl (by go_grown)
theorem specPolicyMap_n2 (A : Option Addr) (n c : Nat) (rs : List Rl) (e a b : Int) (w : World) (hn : n ≤ 9223372036854775807) (hr : RdR w w.heap.size A n rs) (h : polOk ⟨rs, e⟩ = true) (h2 : (verB a && verB b) = false) :
    Calls Tryd.prog 27 #[.agg #[.slice A n c, .int .i64 e], .int .i64 a, .int .i64 b] w (RetPol 35 83 ⟨[], 0⟩ w) := by
  have HR := Lib.hid hr
  have hO1 := fun W h => specPolicyOk_c A n c rs e W h hn
  rw [h] at hO1
  have HO1 := Lib.hid hO1
  clear hr h hO1
  by_cases ha : verB a = true
  · have hb : decide (1 ≤ b ∧ b ≤ 4) = false := by
      rw [ha, Bool.true_and] at h2; exact h2
    have ha : decide (1 ≤ a ∧ a ≤ 4) = true := ha
    clear h2
    go_enter Tryd.func27, Tryd.ntmps27
    go_wp2_with (first
      | (go_at_call 18; refine (HO1.out _ (HR.out.upB (by go_grown) (by go_size))).mono ?_; rintro e w1 ⟨rfl, b1⟩; obtain ⟨gc1, gf1⟩ := below_get b1; (try simp only [heap_drew, World.size_alloc, World.size_setCell] at gc1 gf1); have s1 := below_via (w := w) (by go_grown) b1; have H1 := s1; have hs1 := b1.size; (try simp at hs1); have z1_0 : w.heap.size < w1.heap.size := (by omega); have z1_1 : w.heap.size + 1 < w1.heap.size := (by omega); clear b1)
      | (go_at_call 70; refine (l1In_c _ _ _ _).mono ?_; rintro e w' ⟨rfl, rfl⟩))
    refine bodyPost_ret (v := .agg #[.slice none 0 0, .int .i64 0]) (by simp [results, Tryd.results27, go_sem, gc1, z1_1]) rfl ?_
    go_light
    exact retPol_no rfl (by go_grown)
  · have ha : decide (1 ≤ a ∧ a ≤ 4) = false := by
      have : verB a = false := by simpa using ha
      exact this
    clear h2
    go_enter Tryd.func27, Tryd.ntmps27
    go_wp2_with (first
      | (go_at_call 18; refine (HO1.out _ (HR.out.upB (by go_grown) (by go_size))).mono ?_; rintro e w1 ⟨rfl, b1⟩; obtain ⟨gc1, gf1⟩ := below_get b1; (try simp only [heap_drew, World.size_alloc, World.size_setCell] at gc1 gf1); have s1 := below_via (w := w) (by go_grown) b1; have H1 := s1; have hs1 := b1.size; (try simp at hs1); have z1_0 : w.heap.size < w1.heap.size := (by omega); have z1_1 : w.heap.size + 1 < w1.heap.size := (by omega); clear b1)
      | (go_at_call 70; refine (l1In_c _ _ _ _).mono ?_; rintro e w' ⟨rfl, rfl⟩))
    refine bodyPost_ret (v := .agg #[.slice none 0 0, .int .i64 0]) (by simp [results, Tryd.results27, go_sem, gc1, z1_1]) rfl ?_
    go_light
    exact retPol_no rfl (by go_grown)
theorem specPolicyMap_no (A : Option Addr) (n c : Nat) (rs : List Rl) (e a b : Int) (w : World) (hn : n ≤ 9223372036854775807) (hr : RdR w w.heap.size A n rs) (h : (polOk ⟨rs, e⟩ && verB a && verB b) = false) :
    Calls Tryd.prog 27 #[.agg #[.slice A n c, .int .i64 e], .int .i64 a, .int .i64 b] w (RetPol 35 83 ⟨[], 0⟩ w) := by
  by_cases h1 : polOk ⟨rs, e⟩ = true
  · refine specPolicyMap_n2 A n c rs e a b w hn hr h1 ?_
    rw [h1, Bool.true_and] at h; exact h
  · exact specPolicyMap_n1 A n c rs e a b w hn hr (by simpa using h1)
theorem specPolicyMap_c (A : Option Addr) (n c : Nat) (rs : List Rl) (e a b : Int) (w : World) (hn : n ≤ 9223372036854775807) (hr : RdR w w.heap.size A n rs) :
    Calls Tryd.prog 27 #[.agg #[.slice A n c, .int .i64 e], .int .i64 a, .int .i64 b] w (RetPol 35 83 (mapP a b ⟨rs, e⟩) w) := by
  unfold mapP
  by_cases h : (polOk ⟨rs, e⟩ && verB a && verB b) = true
  · rw [if_pos h]
    simp only [Bool.and_eq_true] at h
    exact specPolicyMap_yes A n c rs e a b w hn hr h.1.1 h.1.2 h.2 _ rfl
  · rw [if_neg h]
    exact specPolicyMap_no A n c rs e a b w hn hr (by simpa using h)
end Go.Proofs.YtljgaepgblakhaaDoor
