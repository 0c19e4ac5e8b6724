/- Marks on policies: written, and looked for. Conditions: each contract's own. -/
import Derived.Test.YtflhniobbdanjaaDoorJ2806bf1e30
namespace Go.Proofs.YtflhniobbdanjaaDoor
set_option linter.unusedSimpArgs false
open Go.RowKit
set_option linter.unusedVariables false
set_option linter.unnecessarySimpa false
/-- Test j when tests are marked from k on. -/
def mtst (k : Int) (j : Nat) : Tst := ⟨k + 4 * (j : Int), k + 4 * (j : Int) + 1, k + 4 * (j : Int) + 1 + 1, k + 4 * (j : Int) + 1 + 1 + 1⟩
def mtsts (k : Int) (n : Nat) : List Tst := (List.range n).map (mtst k)
theorem mtsts_len (k : Int) (n : Nat) : (mtsts k n).length = n := by simp [mtsts]
theorem mtsts_succ (k : Int) (n : Nat) : tsts (mtsts k (n + 1)) = tsts (mtsts k n) ++ (mtst k n).cells := by
  rw [mtsts, List.range_succ, List.map_append]
  simp [tsts, mtsts]
theorem mtsts_at (k : Int) {n j : Nat} (h : j < n) : (mtsts k n)[j]? = some (mtst k j) := by simp [mtsts, h]
/-- Rules marked from k on. -/
def mq : Int → List (Rl × Value) → List (Rl × Value)
  | _, [] => []
  | k, q :: qs => (⟨k, k + 1, k + 1 + 1, mtsts (k + 1 + 1 + 1) q.1.ts.length⟩, q.2) :: mq (k + 3 + 4 * (q.1.ts.length : Int)) qs
/-- How many marks there are. -/
def cnt (qs : List (Rl × Value)) : Nat := (qs.map (fun q => 3 + 4 * q.1.ts.length)).sum
theorem cnt_add (qs : List (Rl × Value)) (q : Rl × Value) : cnt (qs ++ [q]) = cnt qs + (3 + 4 * q.1.ts.length) := by simp [cnt]
theorem cnt_take {qs : List (Rl × Value)} {k : Nat} {q : Rl × Value} (h : qs[k]? = some q) : cnt (qs.take (k + 1)) = cnt (qs.take k) + (3 + 4 * q.1.ts.length) := by
  rw [List.take_add_one, h]
  exact cnt_add _ _
theorem cnt_le {qs : List (Rl × Value)} {k : Nat} : cnt (qs.take k) ≤ cnt qs := by
  have h : cnt qs = cnt (qs.take k) + cnt (qs.drop k) := by
    rw [cnt, ← List.take_append_drop k qs, List.map_append, List.sum_append, List.take_append_drop]; rfl
  omega
theorem cnt_ruleN (qs : List (Rl × Value)) : cnt qs = 3 * qs.length + 4 * ruleN (rls qs) := by
  induction qs with
  | nil => rfl
  | cons q qs ih =>
    simp only [cnt, ruleN, rls, List.map_cons, List.sum_cons, List.length_cons, List.map_map] at ih ⊢
    rw [ih]; omega
theorem mq_len (k : Int) (qs : List (Rl × Value)) : (mq k qs).length = qs.length := by
  induction qs generalizing k with
  | nil => rfl
  | cons q qs ih => simp [mq, ih]
theorem mq_snd (k : Int) (qs : List (Rl × Value)) : (mq k qs).map Prod.snd = qs.map Prod.snd := by
  induction qs generalizing k with
  | nil => rfl
  | cons q qs ih => simp [mq, ih]
theorem mq_tsl (k : Int) (qs : List (Rl × Value)) : (mq k qs).map (fun q => q.1.ts.length) = qs.map (fun q => q.1.ts.length) := by
  induction qs generalizing k with
  | nil => rfl
  | cons q qs ih => simp [mq, ih, mtsts_len]
theorem mq_add (k : Int) (qs : List (Rl × Value)) (q : Rl × Value) : mq k (qs ++ [q]) = mq k qs ++ [(⟨k + (cnt qs : Int), k + (cnt qs : Int) + 1, k + (cnt qs : Int) + 1 + 1, mtsts (k + (cnt qs : Int) + 1 + 1 + 1) q.1.ts.length⟩, q.2)] := by
  induction qs generalizing k with
  | nil => simp [mq, cnt]
  | cons p qs ih =>
    have e : k + 3 + 4 * (p.1.ts.length : Int) + (cnt qs : Int) = k + (cnt (p :: qs) : Int) := by simp [cnt]; omega
    rw [List.cons_append, mq, ih, mq, e, List.cons_append]
theorem mq_at {k : Int} {qs : List (Rl × Value)} {j : Nat} {q : Rl × Value} (h : qs[j]? = some q) : (mq k qs)[j]? = some (⟨k + (cnt (qs.take j) : Int), k + (cnt (qs.take j) : Int) + 1, k + (cnt (qs.take j) : Int) + 1 + 1, mtsts (k + (cnt (qs.take j) : Int) + 1 + 1 + 1) q.1.ts.length⟩, q.2) := by
  induction qs generalizing k j with
  | nil => simp at h
  | cons p qs ih =>
    cases j with
    | zero =>
      simp at h
      subst h
      simp [mq, cnt]
    | succ j =>
      have := ih (k := k + 3 + 4 * (p.1.ts.length : Int)) (by simpa using h)
      have e : k + 3 + 4 * (p.1.ts.length : Int) + (cnt (qs.take j) : Int) = k + (cnt ((p :: qs).take (j + 1)) : Int) := by simp [cnt]; omega
      rw [e] at this
      simpa [mq] using this
theorem Apart.snd {qs qs' : List (Rl × Value)} (h : Apart qs) (e : qs'.map Prod.snd = qs.map Prod.snd) : Apart qs' := by
  intro i j a b hij ha hb
  have key : ∀ (i : Nat) (a : Rl × Value), qs'[i]? = some a → ∃ x, qs[i]? = some x ∧ x.2 = a.2 := fun i a ha => by
    have h1 : (qs'.map Prod.snd)[i]? = some a.2 := by simp [ha]
    rw [e] at h1
    simp only [List.getElem?_map, Option.map_eq_some_iff] at h1
    obtain ⟨x, hx, hx2⟩ := h1
    exact ⟨x, hx, hx2⟩
  obtain ⟨x, hx, ex⟩ := key i a ha
  obtain ⟨y, hy, ey⟩ := key j b hb
  have := h i j x y hij hx hy
  rwa [ex, ey] at this
theorem own_someP {w : World} {base e size n c : Nat} {A : Option Addr} {xs : List Value} (h : w.ownsRow base e size (.slice A n c) n xs) (hn : 0 < n) : ∃ g, A = some ⟨g, 0, none⟩ := by
  rcases h.2 with ⟨_, h0⟩ | ⟨g, cap, cur, hv, _⟩
  · omega
  · exact ⟨g, by injection hv⟩
set_option maxHeartbeats 1000000 in
set_option maxRecDepth 100000 in
theorem markTestS_c (base : Nat) (A : Option Addr) (n cap : Nat) (k : Int) (ys : List Value) (w : World) (h : w.ownsRow base 67 4 (.slice A n cap) n ys) (hk0 : 0 ≤ k) (hk : k + 4 * n ≤ 100000000) :
    Calls Tryd.prog 51 #[.slice A n cap, .int .i64 k] w (fun e w' => e = .returned (.int .i64 (k + 4 * (n : Int))) ∧ w'.ownsRow base 67 4 (.slice A n cap) n (tsts (mtsts k n)) ∧ Keep w w' (fun t => (Value.slice A n cap).ownBlock ≠ some t)) := by
  have H := Lib.hid h
  clear h
  go_enter Tryd.func51, Tryd.ntmps51
  go_wp2
  go_loopg [1, 5] n (fun gk q i wr => ∃ (j : Nat) (zs : List Value), gk + j = n ∧ i = .int .i64 j ∧ q = .int .i64 (k + 4 * (j : Int)) ∧ Hid (wr.ownsRow base 67 4 (.slice A n cap) n zs) ∧ Hid (zs.take (j * 4) = tsts (mtsts k j)) ∧ Hid (Keep w wr (fun t => (Value.slice A n cap).ownBlock ≠ some t)))
  case atStart => exact ⟨0, ys, rfl, rfl, by simp, H, Lib.hid (by simp [mtsts, tsts]), Keep.refl _ _⟩
  case round =>
    obtain ⟨j, zs, hgk, rfl, rfl, HO, HT, HG⟩ := hrel
    by_cases hlt : j < n
    · obtain ⟨gk, rfl⟩ : ∃ m, gk = m + 1 := ⟨gk - 1, by omega⟩
      obtain ⟨g, rfl⟩ := own_someP HO.out (by omega)
      obtain ⟨⟨y0, y1, y2, y3, e0, e1, e2, e3⟩, f1⟩ := own4 HO.out hlt
      have hgt : ∀ t, (Value.slice (some ⟨g, 0, none⟩) n cap).ownBlock ≠ some t → t < w.heap.size → g ≠ t := fun t ht _ e => ht (by rw [e]; rfl)
      have HGT := Lib.hid hgt
      clear hgt
      go_wp2
      go_roundg gk
      case measure => omega
      case rel =>
        go_light
        have hl := HO.out.1
        refine ⟨j + 1, setL zs (j * 4) (mtst k j).cells, by omega, by go_num, by go_num, own_setL HO.out (j * 4) (mtst k j).cells, ?_, (((HG.out.set_ (g := g) (o := j * 4) (.int .i64 (k + 4 * (j : Int))) HGT.out).set_ (g := g) (o := j * 4 + 1) (.int .i64 (k + 4 * (j : Int) + 1)) HGT.out).set_ (g := g) (o := j * 4 + 2) (.int .i64 (k + 4 * (j : Int) + 1 + 1)) HGT.out).set_ (g := g) (o := j * 4 + 3) (.int .i64 (k + 4 * (j : Int) + 1 + 1 + 1)) HGT.out⟩
        show _ = _
        have h1 := setL_take zs (j * 4) (mtst k j).cells (by rw [hl]; simp [Tst.cells]; omega)
        rw [mtsts_succ, ← HT.out, show (j + 1) * 4 = j * 4 + 4 from by omega]
        exact h1
    · obtain rfl : j = n := by omega
      go_wp2
      go_returns
      have ht := HT.out
      have hl := HO.out.1
      rw [List.take_of_length_le (by omega)] at ht
      subst ht
      exact ⟨rfl, HO.out, HG.out⟩
set_option maxHeartbeats 1000000 in
set_option maxRecDepth 100000 in
theorem heldTestS_c (A : Option Addr) (n c : Nat) (k : Int) (w : World) (hr : Rd w w.heap.size 4 A n (tsts (mtsts k n))) (hk0 : 0 ≤ k) (hk : k + 4 * n ≤ 100000000) :
    Calls Tryd.prog 52 #[.slice A n c, .int .i64 k] w (RetB (.int .i64 (k + 4 * (n : Int))) w) := by
  have HR := Lib.hid hr
  clear hr
  go_enter Tryd.func52, Tryd.ntmps52
  go_wp2
  go_loopg [1, 5] n (fun gk q i wr => ∃ (j : Nat), gk + j = n ∧ i = .int .i64 j ∧ q = .int .i64 (k + 4 * (j : Int)) ∧ Hid (Below w.heap.size w wr))
  case atStart => exact ⟨0, rfl, rfl, by simp, Lib.hid (Below.refl _ _)⟩
  case round =>
    obtain ⟨j, hgk, rfl, rfl, HB⟩ := hrel
    by_cases hlt : j < n
    · obtain ⟨gk, rfl⟩ : ∃ m, gk = m + 1 := ⟨gk - 1, by omega⟩
      obtain ⟨b0, off, p, rfl, hb, hp, c0, c1, c2, c3⟩ := (HR.out.below HB.out).tst hlt
      have he : p = mtst k j := by
        have := mtsts_at k hlt
        rw [hp] at this
        injection this
      subst he
      clear hp
      unfold mtst at c0 c1 c2 c3
      simp only at c0 c1 c2 c3
      go_wp2
      go_roundg gk
      case measure => omega
      case rel =>
        go_light
        exact ⟨j + 1, by omega, by go_num, by go_num, HB⟩
    · obtain rfl : j = n := by omega
      go_wp2
      go_returns
      exact ⟨rfl, HB.out⟩
/-- What marks on a policy's rules may turn. -/
theorem mark_step {w w1 : World} {lo hi g n c : Nat} {zs : List (Rl × Value)} {j : Nat} {q : Rl × Value} {k : Int} {TA : Option Addr} {tc : Nat} (h : OP w lo hi 40 67 (some ⟨g, 0, none⟩) n c zs) (ha : Apart zs) (hq : zs[j]? = some q) (e2 : q.2 = .slice TA q.1.ts.length tc)
    (o1 : w1.ownsRow lo 67 4 (.slice TA q.1.ts.length tc) q.1.ts.length (tsts (mtsts k q.1.ts.length))) (k1 : Keep w w1 (fun t => (Value.slice TA q.1.ts.length tc).ownBlock ≠ some t)) :
    OP w1 lo hi 40 67 (some ⟨g, 0, none⟩) n c (zs.set j (⟨q.1.v, q.1.lo, q.1.hi, mtsts k q.1.ts.length⟩, q.2)) := by
  have hqt := h.tst q (List.mem_of_getElem? hq)
  have hqo := hqt.own
  have hne := own_unlike h.own hqo (show 40 ≠ 67 by decide) g rfl
  refine ⟨?_, h.high, fun x hx => ?_⟩
  · have : rcells (zs.set j (⟨q.1.v, q.1.lo, q.1.hi, mtsts k q.1.ts.length⟩, q.2)) = rcells zs := by
      rw [rcells_set hq]
      apply List.ext_getElem?
      intro i
      have hk : j < zs.length := (List.getElem?_eq_some_iff.1 hq).1
      have hl := rcells_len zs
      have r0 := rcells_at hq (j := 0) (by omega)
      have r1 := rcells_at hq (j := 1) (by omega)
      have r2 := rcells_at hq (j := 2) (by omega)
      have r3 := rcells_at hq (j := 3) (by omega)
      show (setL (rcells zs) (j * 4) [.int .i64 q.1.v, .int .i64 q.1.lo, .int .i64 q.1.hi, q.2])[i]? = _
      simp only [setL]
      by_cases i3 : j * 4 + 1 + 1 + 1 = i
      · subst i3; rw [List.getElem?_set_self (by simp; omega)]; exact r3.symm
      rw [List.getElem?_set_ne i3]
      by_cases i2 : j * 4 + 1 + 1 = i
      · subst i2; rw [List.getElem?_set_self (by simp; omega)]; exact r2.symm
      rw [List.getElem?_set_ne i2]
      by_cases i1 : j * 4 + 1 = i
      · subst i1; rw [List.getElem?_set_self (by simp; omega)]; exact r1.symm
      rw [List.getElem?_set_ne i1]
      by_cases i0 : j * 4 = i
      · subst i0; rw [List.getElem?_set_self (by omega)]; exact r0.symm
      rw [List.getElem?_set_ne i0]
    rw [this]
    exact k1.own h.own (fun t ht e => by
      have : t = g := by injection ht with ht; exact ht.symm
      subst this
      rw [e2] at hne
      exact hne e)
  · have hcases : x = (⟨q.1.v, q.1.lo, q.1.hi, mtsts k q.1.ts.length⟩, q.2) ∨ (∃ i, i ≠ j ∧ zs[i]? = some x) := by
      obtain ⟨i, hi⟩ := List.mem_iff_getElem?.1 hx
      by_cases hij : j = i
      · subst hij
        rw [List.getElem?_set_self (List.getElem?_eq_some_iff.1 hq).1] at hi
        left; injection hi with hi; exact hi.symm
      · rw [List.getElem?_set_ne hij] at hi
        exact .inr ⟨i, fun e => hij e.symm, hi⟩
    rcases hcases with rfl | ⟨i, hij, hi⟩
    · refine ⟨?_, fun t ht => hqt.high t ht⟩
      show w1.ownsRow lo 67 4 q.2 (mtsts k q.1.ts.length).length (tsts (mtsts k q.1.ts.length))
      rw [mtsts_len, e2]
      exact o1
    · have hxt := h.tst x (List.mem_of_getElem? hi)
      refine ⟨k1.own hxt.own (fun t ht e => ?_), hxt.high⟩
      rw [← e2] at e
      rcases Nat.lt_or_gt_of_ne hij with hlt | hlt
      · rcases ha i j x q hlt hi hq with h1 | h1
        · rw [h1] at ht; cases ht
        · exact h1 (ht.trans e.symm)
      · rcases ha j i q x hlt hq hi with h1 | h1
        · rw [h1] at e; cases e
        · exact h1 (e.trans ht.symm)
set_option maxHeartbeats 1000000 in
set_option maxRecDepth 100000 in
theorem markRuleS_c (lo hi : Nat) (A : Option Addr) (n c : Nat) (k : Int) (qs : List (Rl × Value)) (w : World) (h : OP w lo hi 40 67 A n c qs) (ha : Apart qs) (hk0 : 0 ≤ k) (hk : k + cnt qs ≤ 10000000) :
    Calls Tryd.prog 28 #[.slice A n c, .int .i64 k] w (fun e w' => e = .returned (.int .i64 (k + (cnt qs : Int))) ∧ OP w' lo hi 40 67 A n c (mq k qs) ∧ Keep w w' (fun t => t < lo ∨ hi ≤ t)) := by
  have hn := h.len
  have hcap := h.cap
  unfold maxLen at hcap
  have H := Lib.hid h
  have HA := Lib.hid ha
  clear h ha
  go_enter Tryd.func28, Tryd.ntmps28
  go_wp2
  go_loopg [1, 5] n (fun gk q i wr => ∃ (j : Nat) (zs : List (Rl × Value)), gk + j = n ∧ i = .int .i64 j ∧ q = .int .i64 (k + (cnt (qs.take j) : Int)) ∧ Hid (OP wr lo hi 40 67 A n c zs) ∧ Hid (zs = mq k (qs.take j) ++ qs.drop j) ∧ Hid (Keep w wr (fun t => t < lo ∨ hi ≤ t)))
  case atStart => exact ⟨0, qs, rfl, rfl, by simp [cnt], H, Lib.hid (by simp [mq]), Keep.refl _ _⟩
  case round =>
    obtain ⟨j, zs, hgk, rfl, rfl, HO, HZ, HG⟩ := hrel
    have hcl := @cnt_le qs (j + 1)
    have hcl2 := @cnt_le qs j
    by_cases hlt : j < n
    · obtain ⟨gk, rfl⟩ : ∃ m, gk = m + 1 := ⟨gk - 1, by omega⟩
      obtain ⟨g, q, TA, tc, rfl, hlo, hhi, hgs, hq, e2, c0, c1, c2, c3, f1, hql⟩ := HO.out.at_ hlt
      have hzl : (mq k (qs.take j)).length = j := by rw [mq_len, List.length_take]; omega
      have hqq : qs[j]? = some q := by
        have := HZ.out
        rw [this, List.getElem?_append_right (by omega), hzl, Nat.sub_self, List.getElem?_drop] at hq
        simpa using hq
      have hct := cnt_take hqq
      have hsn : zs.map Prod.snd = qs.map Prod.snd := by
        rw [HZ.out, List.map_append, mq_snd, ← List.map_append, List.take_append_drop]
      have HQ := Lib.hid hq
      have HQQ := Lib.hid hqq
      have HE2 := Lib.hid e2
      have HAZ := Lib.hid (HA.out.snd hsn)
      have HCT := Lib.hid hct
      have hgt : ∀ t, (t < lo ∨ hi ≤ t) → t < w.heap.size → g ≠ t := fun t ht _ e => by omega
      have HGT := Lib.hid hgt
      have hbd : k + (cnt (qs.take j) : Int) + 1 + 1 + 1 + 4 * (q.1.ts.length : Int) ≤ 10000000 := by rw [hct] at hcl; omega
      clear hq hqq e2 hct hsn hgt hcl hzl
      generalize hK : k + (cnt (qs.take j) : Int) = K at *
      have hK0 : 0 ≤ K := by omega
      have HK := Lib.hid hK
      clear hK hcl2
      have hP3 := HO.out.put3 (show 40 ≠ 67 by decide) HQ.out K (K + 1) (K + 1 + 1)
      have HP3 := Lib.hid hP3
      have HK3 := Lib.hid (((HG.out.set_ (g := g) (o := j * 4) (.int .i64 K) HGT.out).set_ (g := g) (o := j * 4 + 1) (.int .i64 (K + 1)) HGT.out).set_ (g := g) (o := j * 4 + 2) (.int .i64 (K + 1 + 1)) HGT.out)
      have hq3 : (zs.set j (⟨K, K + 1, K + 1 + 1, q.1.ts⟩, q.2))[j]? = some (⟨K, K + 1, K + 1 + 1, q.1.ts⟩, q.2) := List.getElem?_set_self (List.getElem?_eq_some_iff.1 HQ.out).1
      have HQ3 := Lib.hid hq3
      have hT3 := (HP3.out.tst _ (List.mem_of_getElem? hq3)).own
      simp only [HE2.out] at hT3
      have HT3 := Lib.hid hT3
      have hAP := HAZ.out.set HQ.out (q := (⟨K, K + 1, K + 1 + 1, q.1.ts⟩, q.2)) rfl
      have HAP := Lib.hid hAP
      clear hP3 hT3 hAP hq3
      go_wp2_with (go_at_call 51; refine (markTestS_c lo TA q.1.ts.length tc (K + 1 + 1 + 1) _ _ HT3.out (by omega) (by omega)).mono ?_; rintro e w1 ⟨rfl, o1, k1⟩; have O1 := Lib.hid (mark_step HP3.out HAP.out HQ3.out HE2.out o1 k1); have K1 := Lib.hid (HK3.out.trans k1 (fun t ht _ e => by have h1 := (HO.out.tst q (List.mem_of_getElem? HQ.out)); rw [← HE2.out] at e; have := h1.high t e; have := (h1.lt t e).1; omega)); clear o1 k1)
      go_roundg gk
      case measure => omega
      case rel =>
        go_light
        refine ⟨j + 1, (zs.set j (⟨K, K + 1, K + 1 + 1, q.1.ts⟩, q.2)).set j (⟨K, K + 1, K + 1 + 1, mtsts (K + 1 + 1 + 1) q.1.ts.length⟩, q.2), by omega, by go_num, ?_, O1, ?_, K1⟩
        · have := HCT.out
          have := HK.out
          refine congrArg (Value.int .i64) ?_
          rw [HCT.out]; omega
        · show _ = _
          have hz := HZ.out
          have hqq := HQQ.out
          have hjl : j < qs.length := (List.getElem?_eq_some_iff.1 hqq).1
          have hd : qs.drop j = q :: qs.drop (j + 1) := by
            rw [List.drop_eq_getElem_cons hjl]
            congr 1
            have := List.getElem?_eq_getElem hjl
            rw [hqq] at this
            injection this with this
            exact this.symm
          rw [List.take_add_one, hqq, Option.toList_some, mq_add, HK.out, List.set_set, hz, hd]
          have hml : (mq k (qs.take j)).length = j := by rw [mq_len, List.length_take]; omega
          rw [List.set_append_right _ _ (by omega), hml, Nat.sub_self, List.set_cons_zero, List.append_assoc]
          rfl
    · obtain rfl : j = n := by omega
      go_wp2
      go_returns
      have hz := HZ.out
      rw [List.drop_of_length_le (by omega), List.take_of_length_le (by omega), List.append_nil] at hz
      subst hz
      rw [List.take_of_length_le (by omega)]
      exact ⟨rfl, HO.out, HG.out⟩
theorem markPolicy_c (lo hi : Nat) (A : Option Addr) (n c : Nat) (e k : Int) (qs : List (Rl × Value)) (w : World) (h : OP w lo hi 40 67 A n c qs) (ha : Apart qs) (hh : hi ≤ w.heap.size) (hk0 : 0 ≤ k) (hk : k + cnt qs ≤ 10000000) :
    Calls Tryd.prog 8 #[.agg #[.slice A n c, .int .i64 e], .int .i64 k] w (fun e w' => e = .returned (.int .i64 (k + (cnt qs : Int))) ∧ OP w' lo hi 40 67 A n c (mq k qs) ∧ Keep w w' (fun t => t < lo ∨ hi ≤ t)) := by
  have H := Lib.hid h
  have HA := Lib.hid ha
  clear h ha
  go_enter Tryd.func8, Tryd.ntmps8
  go_wp2_with (go_at_call 28; refine (markRuleS_c lo hi A n c k qs _ (H.out.up (by go_grown)) HA.out hk0 hk).mono ?_; rintro e w1 ⟨rfl, o1, k1⟩; have O1 := Lib.hid o1; have K1 := Lib.hid k1; clear o1 k1)
  go_returns
  refine ⟨rfl, O1.out, ?_⟩
  exact (Keep.of_below (ok := fun t => t < lo ∨ hi ≤ t) (B := w.heap.size) (by go_grown) (fun t _ ht => ht)).trans K1.out (fun t ht _ => ht)
set_option maxHeartbeats 1000000 in
set_option maxRecDepth 100000 in
theorem heldRuleS_c (A : Option Addr) (n c : Nat) (k : Int) (qs : List (Rl × Value)) (w : World) (hr : RdR w w.heap.size A n (rls (mq k qs))) (hk0 : 0 ≤ k) (hk : k + cnt qs ≤ 10000000) :
    Calls Tryd.prog 29 #[.slice A n c, .int .i64 k] w (RetB (.int .i64 (k + (cnt qs : Int))) w) := by
  have hn : qs.length = n := by have := hr.1; rw [rls_len, mq_len] at this; exact this
  have HR := Lib.hid hr
  clear hr
  by_cases hnb : n ≤ 9223372036854775807
  case neg => exfalso; have := cnt_ruleN qs; omega
  go_enter Tryd.func29, Tryd.ntmps29
  go_wp2
  go_loopg [1, 5] n (fun gk q i wr => ∃ (j : Nat), gk + j = n ∧ i = .int .i64 j ∧ q = .int .i64 (k + (cnt (qs.take j) : Int)) ∧ Hid (Below w.heap.size w wr))
  case atStart => exact ⟨0, rfl, rfl, by simp [cnt], Lib.hid (Below.refl _ _)⟩
  case round =>
    obtain ⟨j, hgk, rfl, rfl, HB⟩ := hrel
    have hcl := @cnt_le qs (j + 1)
    have hcl2 := @cnt_le qs j
    by_cases hlt : j < n
    · obtain ⟨gk, rfl⟩ : ∃ m, gk = m + 1 := ⟨gk - 1, by omega⟩
      obtain ⟨q, hqq⟩ := some_at hn hlt
      obtain ⟨b, off, r, rfl, hb, hp, TA, tc, c0, c1, c2, c3, hrt, hrl⟩ := (HR.out.below HB.out).rl hlt
      have hct := cnt_take hqq
      have he := rls_at (mq_at (k := k) hqq)
      rw [hp] at he
      injection he with he
      have HCT := Lib.hid hct
      have hbd : k + (cnt (qs.take j) : Int) + 1 + 1 + 1 + 4 * (q.1.ts.length : Int) ≤ 10000000 := by rw [hct] at hcl; omega
      clear hp hqq hct hcl
      generalize hK : k + (cnt (qs.take j) : Int) = K at *
      have hK0 : 0 ≤ K := by omega
      have HK := Lib.hid hK
      clear hK hcl2
      subst he
      simp only [mtsts_len] at c0 c1 c2 c3 hrt hrl
      have HRT := Lib.hid hrt
      have hbs := HB.out.size
      clear hrt
      go_wp2_with (go_at_call 52; refine (heldTestS_c TA q.1.ts.length tc (K + 1 + 1 + 1) _ ((HRT.out.more hbs).upB (by go_grown) (by go_size)) (by omega) (by omega)).mono ?_; rintro e w1 ⟨rfl, b1⟩; have HB1 := Lib.hid (below_on HB.out (by go_grown) b1); clear b1)
      go_roundg gk
      case measure => omega
      case rel =>
        go_light
        refine ⟨j + 1, by omega, by go_num, ?_, HB1⟩
        have := HCT.out
        have := HK.out
        refine congrArg (Value.int .i64) ?_
        rw [HCT.out]; omega
    · obtain rfl : j = n := by omega
      rw [List.take_of_length_le (by omega)]
      go_wp2
      go_returns
      exact ⟨rfl, HB.out⟩
theorem heldPolicy_c (A : Option Addr) (n c : Nat) (e k : Int) (qs : List (Rl × Value)) (w : World) (hr : RdR w w.heap.size A n (rls (mq k qs))) (hk0 : 0 ≤ k) (hk : k + cnt qs ≤ 10000000) :
    Calls Tryd.prog 9 #[.agg #[.slice A n c, .int .i64 e], .int .i64 k] w (RetB (.int .i64 (k + (cnt qs : Int))) w) := by
  have HR := Lib.hid hr
  clear hr
  go_enter Tryd.func9, Tryd.ntmps9
  go_wp2_with (go_at_call 29; refine (heldRuleS_c A n c k qs _ (HR.out.upB (by go_grown) (by go_size)) hk0 hk).mono ?_; rintro e w1 ⟨rfl, b1⟩; obtain ⟨gc1, gf1⟩ := below_get b1; (try simp only [heap_drew, World.size_alloc, World.size_setCell] at gc1 gf1); have s1 := below_via (w := w) (by go_grown) b1; have H1 := s1; have hs1 := b1.size; (try simp at hs1); have z1_0 : w.heap.size < w1.heap.size := (by omega); clear b1)
  go_returns
  exact ⟨rfl, by go_grown⟩
end Go.Proofs.YtflhniobbdanjaaDoor
