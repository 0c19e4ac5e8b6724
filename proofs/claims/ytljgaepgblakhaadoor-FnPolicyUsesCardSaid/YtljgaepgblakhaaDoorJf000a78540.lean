/- What the policy does not look at does not matter; and ints alike. Conditions: each contract's own. -/
import Derived.Test.YtljgaepgblakhaaDoorJ79a5357b03
import Derived.Test.YtljgaepgblakhaaDoorJ74c898c071
import Derived.Test.YtljgaepgblakhaaDoorJ31cf7ff03e
namespace Go.Proofs.YtljgaepgblakhaaDoor
set_option linter.unusedSimpArgs false
open Go.RowKit
set_option linter.unusedVariables false
set_option linter.unnecessarySimpa false
set_option maxRecDepth 20000
theorem polOk_ruB {p : Pol} (h : polOk p = true) : p.rs.all ruleB = true := by
  cases p with
  | mk rs e => exact (polOk_rules h).2
theorem usesP_in {p : Pol} (h : polOk p = true) {f : Int} (h0 : 0 ≤ f) (h4 : f ≤ 4) (hf : f ∈ flds p.rs) : f ∈ usesP p := by
  unfold usesP usesR
  rw [if_pos h, List.mem_filter]
  refine ⟨?_, by simpa using hf⟩
  have : f = 0 ∨ f = 1 ∨ f = 2 ∨ f = 3 ∨ f = 4 := by omega
  rcases this with rfl | rfl | rfl | rfl | rfl <;> simp
theorem in_rU {rs : List Rl} {r : Rl} (hr : r ∈ rs) {f : Int} (h : f ∈ rU r) : f ∈ flds rs := List.mem_flatMap.2 ⟨r, hr, h⟩
theorem callB_num {num : Int} {zs : List Int} (h : callB num zs = true) : 0 ≤ num ∧ num ≤ 4294967295 := by
  unfold callB at h
  simp only [Bool.and_eq_true] at h
  exact of_decide_eq_true h.1.1
theorem fits_same {p : Pol} {num num' : Int} {zs zs' : List Int} (ho : polOk p = true) (h : callB num zs = true) (h' : callB num' zs' = true)
    (hs : ∀ f : Int, 0 ≤ f → f ≤ 4 → f ∈ usesP p → fieldV num zs f = fieldV num' zs' f) {r : Rl} (hr : r ∈ p.rs) : ruleFitsB num zs r = ruleFitsB num' zs' r := by
  have hfl := flds_in (polOk_ruB ho)
  unfold ruleFitsB
  have e1 : decide (r.lo ≤ num ∧ num ≤ r.hi) = decide (r.lo ≤ num' ∧ num' ≤ r.hi) := by
    by_cases hc : 0 < r.lo ∨ r.hi < 4294967295
    · have h0 : (0 : Int) ∈ rU r := by unfold rU; rw [if_pos hc]; simp
      have := hs 0 (by omega) (by omega) (usesP_in ho (by omega) (by omega) (in_rU hr h0))
      simp only [fieldV, if_true] at this
      rw [this]
    · have a := callB_num h
      have b := callB_num h'
      congr 1
      apply propext
      omega
  have e2 : r.ts.all (fitsT num zs) = r.ts.all (fitsT num' zs') := by
    have hall : ∀ l : List Tst, (∀ t ∈ l, t ∈ r.ts) → l.all (fitsT num zs) = l.all (fitsT num' zs') := by
      intro l
      induction l with
      | nil => intro _; rw [List.all_nil, List.all_nil]
      | cons t l ih =>
        intro hl
        have hm : t.f ∈ rU r := by unfold rU; exact List.mem_append_right _ (List.mem_map.2 ⟨t, hl t (by simp), rfl⟩)
        have hb := hfl _ (in_rU hr hm)
        have he := hs t.f hb.1 hb.2 (usesP_in ho hb.1 hb.2 (in_rU hr hm))
        rw [List.all_cons, List.all_cons, ih (fun x hx => hl x (by simp [hx]))]
        unfold fitsT fitsB
        rw [he]
    exact hall r.ts (fun _ h => h)
  rw [e1, e2]
theorem uses_law (p : Pol) {num num' : Int} {zs zs' : List Int} (h : callB num zs = true) (h' : callB num' zs' = true)
    (hs : ∀ f : Int, 0 ≤ f → f ≤ 4 → f ∈ usesP p → fieldV num zs f = fieldV num' zs' f) : polOfV p num zs = polOfV p num' zs' := by
  unfold polOfV
  rw [h, h', Bool.and_true]
  by_cases ho : polOk p = true
  · rw [if_pos ho, if_pos ho]
    have e : p.rs.find? (ruleFitsB num zs) = p.rs.find? (ruleFitsB num' zs') := by
      have : ∀ l : List Rl, (∀ r ∈ l, r ∈ p.rs) → l.find? (ruleFitsB num zs) = l.find? (ruleFitsB num' zs') := by
        intro l
        induction l with
        | nil => intro _; rw [List.find?_nil, List.find?_nil]
        | cons a l ih =>
          intro hl
          rw [List.find?_cons, List.find?_cons, fits_same ho h h' hs (hl a (by simp)), ih (fun r hr => hl r (by simp [hr]))]
      exact this p.rs (fun _ h => h)
    unfold polV
    rw [e]
  · rw [if_neg ho, if_neg ho]
/-- The call as it is turned, up to field k. -/
def Turned (us : List Int) (k : Nat) (num : Int) (zs : List Int) (num' : Int) (ys : List Int) : Prop :=
  callB num' ys = true ∧ ((0 : Int) ∈ us ∨ k = 0 → num' = num) ∧ ∀ j : Nat, ((j : Int) + 1 ∈ us ∨ k ≤ j + 1) → ys[j]? = zs[j]?
theorem Turned.start {us : List Int} {num : Int} {zs : List Int} (h : callB num zs = true) : Turned us 0 num zs num zs := ⟨h, fun _ => rfl, fun _ _ => rfl⟩
theorem Turned.skip {us : List Int} {k : Nat} {num num' : Int} {zs ys : List Int} (h : Turned us k num zs num' ys) (hk : (k : Int) ∈ us) : Turned us (k + 1) num zs num' ys := by
  refine ⟨h.1, fun h0 => ?_, fun j hj => ?_⟩
  · rcases h0 with h0 | h0
    · exact h.2.1 (.inl h0)
    · omega
  · rcases hj with hj | hj
    · exact h.2.2 j (.inl hj)
    · exact h.2.2 j (.inr (by omega))
theorem Turned.num {us : List Int} {num num' v : Int} {zs ys : List Int} (h : Turned us 0 num zs num' ys) (hk : (0 : Int) ∉ us) (hv : wordB v = true) : Turned us 1 num zs v ys := by
  refine ⟨?_, fun h0 => ?_, fun j hj => h.2.2 j (.inr (by omega))⟩
  · have := h.1
    unfold callB at this ⊢
    simp only [Bool.and_eq_true] at this ⊢
    exact ⟨⟨hv, this.1.2⟩, this.2⟩
  · rcases h0 with h0 | h0
    · exact absurd h0 hk
    · omega
theorem Turned.arg {us : List Int} {k : Nat} {num num' v : Int} {zs ys : List Int} (h : Turned us (k + 1) num zs num' ys) (hk : (k : Int) + 1 ∉ us) (hv : wordB v = true) : Turned us (k + 1 + 1) num zs num' (ys.set k v) := by
  refine ⟨?_, fun h0 => ?_, fun j hj => ?_⟩
  · have := h.1
    unfold callB at this ⊢
    simp only [Bool.and_eq_true, List.length_set, List.all_eq_true] at this ⊢
    refine ⟨this.1, fun y hy => ?_⟩
    rcases List.mem_or_eq_of_mem_set hy with h1 | rfl
    · exact this.2 y h1
    · exact hv
  · rcases h0 with h0 | h0
    · exact h.2.1 (.inl h0)
    · omega
  · have hjk : k ≠ j := by
      rintro rfl
      rcases hj with hj | hj
      · exact hk hj
      · omega
    rw [List.getElem?_set_ne hjk]
    rcases hj with hj | hj
    · exact h.2.2 j (.inl hj)
    · exact h.2.2 j (.inr (by omega))
theorem Turned.same {p : Pol} {k : Nat} {num num' : Int} {zs ys : List Int} (h : Turned (usesP p) k num zs num' ys) (hz : callB num zs = true) : polOfV p num' ys = polOfV p num zs := by
  refine uses_law p h.1 hz (fun f h0 h4 hf => ?_)
  unfold fieldV
  by_cases he : f = 0
  · subst he
    rw [if_pos rfl, if_pos rfl]
    exact h.2.1 (.inl hf)
  · rw [if_neg he, if_neg he]
    have := h.2.2 (f - 1).toNat (.inl (by rw [show (((f - 1).toNat : Nat) : Int) + 1 = f by omega]; exact hf))
    rw [List.getD_eq_getElem?_getD, List.getD_eq_getElem?_getD, this]
theorem word_tmod (m b : Nat) : wordB ((((m : Int) * (b : Int))).tmod 1000) = true := by
  unfold wordB
  rw [Int.tmod_eq_emod_of_nonneg (by rw [← Int.natCast_mul]; omega)]
  have h1 := Int.emod_nonneg ((m : Int) * (b : Int)) (show (1000 : Int) ≠ 0 by omega)
  have h2 := Int.emod_lt_of_pos ((m : Int) * (b : Int)) (show (0 : Int) < 1000 by omega)
  simp
  omega
theorem mem_take1 {us : List Int} {j : Nat} {x : Int} (h : us[j]? = some x) (k : Int) : decide (k ∈ us.take (j + 1)) = (decide (k ∈ us.take j) || decide (x = k)) := by
  rw [List.take_add_one, h]
  rw [Bool.eq_iff_iff]
  simp only [Option.toList, List.mem_append, List.mem_singleton, Bool.or_eq_true, decide_eq_true_eq]
  exact or_congr Iff.rfl eq_comm
/-- What both sides say, and that it is enough. -/
theorem uses_y (rs : List Rl) (e : Int) (hn : rs.length ≤ 9223372036854775807) : ∃ (us : List Int), us.length ≤ 5 ∧
    (∀ num zs num' ys, callB num zs = true → Turned us 5 num zs num' ys → polOfV ⟨rs, e⟩ num' ys = polOfV ⟨rs, e⟩ num zs) ∧
    (∀ A c W, RdR W W.heap.size A rs.length rs → Calls Tryd.prog 35 #[.agg #[.slice A rs.length c, .int .i64 e]] W (RetOwn 3 1 us.length (ints us) W)) ∧
    (∀ A c W, RdR W W.heap.size A rs.length rs → PT W W.heap.size → Calls Tryd.prog 33 #[.agg #[.slice A rs.length c, .int .i64 e]] W (RetOwn 3 1 us.length (ints us) W)) := by
  refine ⟨usesP ⟨rs, e⟩, ?_, fun num zs num' ys hz h => h.same hz, fun A c W h => specPolicyUses_c A _ c rs e W hn h, fun A c W h k => policyUses_c A _ c rs e W hn h k⟩
  unfold usesP usesR
  split
  · exact Nat.le_trans (List.length_filter_le _ _) (by decide)
  · simp
theorem wgInts_y (A B : Option Addr) (n c d : Nat) (xs : List Int) (w : World) (hx : Rd w w.heap.size 1 A n (ints xs)) (hy : Rd w w.heap.size 1 B n (ints xs)) (hn : n ≤ 9223372036854775807) :
    Calls Tryd.prog 34 #[.slice A n c, .slice B n d] w (RetB (.bool true) w) := by
  have HX := Lib.hid hx
  have HY := Lib.hid hy
  clear hx hy
  go_enter Tryd.func34, Tryd.ntmps34
  go_wp2
  go_loopg [5] n (fun gk i wr => ∃ (j : Nat), gk + j = n ∧ i = .int .i64 j ∧ Below w.heap.size w wr)
  case atStart => exact ⟨0, rfl, rfl, Below.refl _ _⟩
  case round =>
    obtain ⟨j, hgk, rfl, hbel⟩ := hrel
    by_cases hlt : j < n
    · obtain ⟨gk, rfl⟩ : ∃ m, gk = m + 1 := ⟨gk - 1, by omega⟩
      have hlx : xs.length = n := by simpa [ints] using HX.out.1
      obtain ⟨x, hx⟩ := some_at hlx hlt
      obtain ⟨b, off, rfl, hb, hc⟩ := HX.out.2 (by omega)
      obtain ⟨b2, off2, rfl, hb2, hc2⟩ := HY.out.2 (by omega)
      have hcell := (hbel.cell (p := ⟨b, off + j, none⟩) hb).trans (hc j _ (int_at hx))
      have hcell2 := (hbel.cell (p := ⟨b2, off2 + j, none⟩) hb2).trans (hc2 j _ (int_at hx))
      clear hc hc2 hx hlx
      go_wp2
      go_region
      go_wp2
      go_roundg gk
      case measure => omega
      case rel =>
        go_light
        exact ⟨j + 1, by omega, by go_num, hbel.drew⟩
    · obtain rfl : j = n := by omega
      go_wp2
      go_returns
      exact ⟨rfl, hbel⟩
/-- What the call's copy needs. -/
theorem ints_oneQ (zs : List Int) : ∀ u ∈ ints zs, u.oneCell' = true := by
  intro u hu
  obtain ⟨x, _, rfl⟩ := List.mem_map.1 hu
  rfl
theorem own_emptyQ (w : World) (e : TypeId) (B E : Nat) (hE : w.heap.size = E) (hB : B ≤ E) : (w.alloc (.cells #[] e)).ownsRow B e 1 (.slice (some ⟨E, 0, none⟩) 0 0) 0 [] := by
  subst hE
  exact ⟨rfl, .inr ⟨w.heap.size, 0, #[], rfl, hB, heap_alloc_new w _, by omega, by unfold maxLen; omega, rfl, rfl⟩⟩
theorem src_cellsQ {w : World} {B b off n : Nat} {us : List Value} (h : Rd w B 1 (some ⟨b, off, none⟩) n us) (hn : 0 < n) : ∀ j u, us[j]? = some u → w.cell? ((⟨b, off, none⟩ : Addr).add j) = some u := by
  intro j u hu
  obtain ⟨b', off', e, _, hc⟩ := h.2 hn
  injection e with e
  injection e with e1 e2
  subst e1 e2
  rw [add_norm]
  exact hc j u hu
end Go.Proofs.YtljgaepgblakhaaDoor
