/- The reference's way to read a number. Conditions: each contract's own. -/
import Derived.Test.YtdbojdgppgphkaaDoorNum
import Derived.Test.YtdbojdgppgphkaaDoorCall
import Derived.Deep.LoopGhost
namespace Go.Proofs.YtdbojdgppgphkaaDoor
set_option linter.unusedSimpArgs false
open Go.RowKit
set_option linter.unusedVariables false
set_option linter.unnecessarySimpa false
set_option maxRecDepth 20000
theorem valD_lt {ds : List UInt8} (hd : ds.all digB = true) : ∀ {v : Int} {m : Nat}, 0 ≤ v → v < 10 ^ m → valD v ds < 10 ^ (m + ds.length) := by
  induction ds with
  | nil => intro v m h0 h; simpa [valD] using h
  | cons c ds ih =>
    intro v m h0 h
    rw [List.all_cons, Bool.and_eq_true] at hd
    have hf := figI_b hd.1
    rw [valD_cons]
    have := ih hd.2 (v := v * 10 + figI c) (m := m + 1) (by omega) (by rw [Int.pow_succ]; omega)
    rw [List.length_cons, show m + (ds.length + 1) = m + 1 + ds.length from by omega]
    exact this
theorem val_ten {ds : List UInt8} (hd : ds.all digB = true) (hl : ds.length ≤ 10) : 0 ≤ valD 0 ds ∧ valD 0 ds ≤ 9999999999 := by
  refine ⟨valD_ge hd (Int.le_refl _), ?_⟩
  have h := valD_lt hd (v := 0) (m := 0) (Int.le_refl _) (by decide)
  have h2 : (10 : Int) ^ (0 + ds.length) ≤ 10 ^ 10 := by
    have := Nat.pow_le_pow_right (n := 10) (by decide) (show 0 + ds.length ≤ 10 by omega)
    exact_mod_cast this
  have h4 : (10 : Int) ^ 10 = 10000000000 := by decide
  omega
theorem take_dig {l : List UInt8} {k : Nat} {c : UInt8} (h : l[k]? = some c) : (l.take (k + 1)).all digB = ((l.take k).all digB && digB c) ∧ valD 0 (l.take (k + 1)) = valD 0 (l.take k) * 10 + figI c := by
  rw [List.take_add_one, h]
  refine ⟨by simp, ?_⟩
  rw [valD_app]
  rfl
theorem num2_no {l : List UInt8} (h : ¬ (1 ≤ l.length ∧ l.length ≤ 10) ∨ noNought l = false ∨ l.all digB = false ∨ 4294967295 < valD 0 l) : num2V l = -1 := by
  unfold num2V
  rw [if_neg]
  intro hc
  simp only [Bool.and_eq_true, decide_eq_true_eq] at hc
  rcases h with h | h | h | h
  · exact h hc.1.1.1
  · rw [hc.1.1.2] at h; cases h
  · rw [hc.1.2] at h; cases h
  · omega
theorem num2_yes {l : List UInt8} (h1 : 1 ≤ l.length ∧ l.length ≤ 10) (h2 : noNought l = true) (h3 : l.all digB = true) (h4 : valD 0 l ≤ 4294967295) : num2V l = valD 0 l := by
  unfold num2V
  rw [if_pos]
  simp [h2, h3, h4, h1]
set_option maxHeartbeats 1600000 in
set_option maxRecDepth 100000 in
theorem l2Num_c (l : List UInt8) (hl : l.length ≤ 9223372036854775807) (w : World) : Calls Tryd.prog 106 #[.string (str l)] w (RetW (.int .i64 (num2V l)) w) := by
  have hsz := str_size l
  have HAT : Hid (∀ k (h1 : k < (str l).size) (hk : k < l.length), (str l)[k]'h1 = l[k]'hk) := Lib.hid (fun k h1 hk => by simp [str, ByteArray.getElem_eq_getElem_data])
  obtain ⟨L, hL⟩ : ∃ L : ByteArray, L = str l := ⟨_, rfl⟩
  rw [← hL] at hsz HAT ⊢
  clear hL
  have HI := Lib.hid (fun W => l1In_c (l.length : Int) 1 10 W)
  by_cases h1 : 1 ≤ l.length ∧ l.length ≤ 10
  · have e1 : decide ((1 : Int) ≤ (l.length : Int) ∧ (l.length : Int) ≤ 10) = true := by simp only [decide_eq_true_eq]; omega
    rw [e1] at HI
    have h0 : 0 < l.length := h1.1
    have h10 : l.length ≤ 10 := h1.2
    have hat := HAT.out 0 (by omega) h0
    have hh : l.head? = some (l[0]'h0) := by rw [List.head?_eq_getElem?, List.getElem?_eq_getElem]
    have HH := Lib.hid hh
    by_cases hn : noNought l = true
    · have HN := Lib.hid hn
      have hc : ((1 : Int) < (l.length : Int)) → ((((L[0]'(by omega)).toNat : Nat) : Int) == 48) = false := fun hlt => by
        have := hn
        unfold noNought at this
        rw [hh, ← hat] at this
        simp only [Bool.not_eq_true', Bool.and_eq_false_iff, decide_eq_false_iff_not, beq_eq_false_iff_ne] at this
        rcases this with h | h
        · omega
        · have h48 : (L[0]'(by omega)).toNat ≠ 48 := fun e => h (by rw [UInt8.toNat_inj.1 (show (L[0]'(by omega)).toNat = (48 : UInt8).toNat from e)])
          simp only [beq_eq_false_iff_ne]
          omega
      clear hat hh hn e1
      have HGO : Hid (∀ (k : Nat) (hk : k < l.length), (l.take (k + 1)).all digB = ((l.take k).all digB && digB (l[k]'hk)) ∧ valD 0 (l.take (k + 1)) = valD 0 (l.take k) * 10 + figI (l[k]'hk)) := Lib.hid (fun k hk => take_dig (List.getElem?_eq_getElem hk))
      have HTEN : Hid (∀ k, (l.take k).all digB = true → 0 ≤ valD 0 (l.take k) ∧ valD 0 (l.take k) ≤ 9999999999) := Lib.hid (fun k hk => val_ten hk (by rw [List.length_take]; omega))
      rcases Nat.lt_or_ge 1 l.length with hlt | hlt
      all_goals
        first
          | (have hc1 := hc (by omega))
          | (have hc2 : ¬ (1 : Int) < (l.length : Int) := by omega)
        clear hc
        go_enter Tryd.func106, Tryd.ntmps106
        (go_wp2_with fail); (go_at_call 74; refine (HI.out _).mono ?_; rintro e w1 ⟨rfl, rfl⟩)
        go_wp2_with fail
        go_loopg [3, 4] l.length (fun gk v i wr => ∃ (k : Nat) (x : Int), gk + k = l.length ∧ v = .int .i64 x ∧ i = .int .i64 k ∧ 0 ≤ x ∧ x ≤ 9999999999 ∧ Hid ((l.take k).all digB = true) ∧ Hid (valD 0 (l.take k) = x) ∧ wr = w)
        case atStart => exact ⟨0, 0, rfl, rfl, rfl, by omega, by omega, Lib.hid (by simp), Lib.hid (by simp [valD]), rfl⟩
        case round =>
          obtain ⟨k, x, hgk, rfl, rfl, hx0, hx1, HDk, HVk, rfl⟩ := hrel
          by_cases hk : k < l.length
          · have hat := HAT.out k (by omega) hk
            have hgo := HGO.out k hk
            rw [← hat] at hgo
            have HG := Lib.hid hgo
            have HK : Hid (digB (L[k]'(by omega)) = false → l.all digB = false) := Lib.hid (fun h => by
              rw [hat] at h
              rw [Bool.eq_false_iff]
              intro ha
              rw [List.all_eq_true] at ha
              rw [ha _ (List.getElem_mem hk)] at h
              cases h)
            obtain ⟨gm, rfl⟩ : ∃ m, gk = m + 1 := ⟨gk - 1, by omega⟩
            clear hat hgo
            go_wp2_with fail
            · go_returns
              go_light
              rw [num2_no (.inr (.inr (.inl (HK.out (by unfold digB; simp only [decide_eq_false_iff_not]; omega)))))]
              exact ⟨rfl, rfl⟩
            · go_roundg gm
              case measure => omega
              case rel =>
                go_light
                obtain ⟨g1, g2⟩ := HG.out
                have hd : digB (L[k]'(by omega)) = true := by unfold digB; simp only [decide_eq_true_eq]; omega
                rw [HDk.out, hd] at g1
                have ht := HTEN.out (k + 1) g1
                have g2' := g2
                rw [HVk.out] at g2'
                rw [g2'] at ht
                exact ⟨k + 1, x * 10 + figI (L[k]'(by omega)), by omega, by unfold figI; go_num, by go_num, ht.1, ht.2, Lib.hid g1, Lib.hid g2', rfl⟩
            · go_returns
              go_light
              rw [num2_no (.inr (.inr (.inl (HK.out (by unfold digB; simp only [decide_eq_false_iff_not]; omega)))))]
              exact ⟨rfl, rfl⟩
          · have hkl : k = l.length := by omega
            have ha : l.all digB = true := by have := HDk.out; rwa [hkl, List.take_length] at this
            have hv : valD 0 l = x := by have := HVk.out; rwa [hkl, List.take_length] at this
            have HY : Hid (x ≤ 4294967295 → num2V l = x) := Lib.hid (fun h => by rw [num2_yes h1 HN.out ha (by omega), hv])
            have HNo : Hid (4294967295 < x → num2V l = -1) := Lib.hid (fun h => num2_no (.inr (.inr (.inr (by omega)))))
            clear ha hv HDk HVk
            by_cases hw : x ≤ 4294967295
            · have HQ := Lib.hid (HY.out hw)
              clear HY HNo
              go_wp2
              go_returns
              rw [HQ.out]
              exact ⟨rfl, rfl⟩
            · have HQ := Lib.hid (HNo.out (by omega))
              clear HY HNo
              go_wp2
              go_returns
              rw [HQ.out]
              exact ⟨rfl, rfl⟩
    · have hf : noNought l = false := by simpa using hn
      have HE := Lib.hid (num2_no (.inr (.inl hf)))
      have hlt : 1 < l.length := by
        unfold noNought at hf
        simp only [Bool.not_eq_false', Bool.and_eq_true, decide_eq_true_eq] at hf
        exact hf.1
      have hpos : 0 < L.size := by rw [hsz]; exact h0
      have hc : ((((L[0]'hpos).toNat : Nat) : Int) == 48) = true := by
        unfold noNought at hf
        rw [hh, ← hat] at hf
        simp only [Bool.not_eq_false', Bool.and_eq_true, beq_iff_eq, Option.some.injEq] at hf
        rw [hf.2]
        rfl
      rw [HE.out]
      clear h1 e1 HAT hat hh hn hf HE HH
      go_enter Tryd.func106, Tryd.ntmps106
      (go_wp2_with fail); (go_at_call 74; refine (HI.out _).mono ?_; rintro e w1 ⟨rfl, rfl⟩)
      go_wp2
      go_returns
      exact ⟨rfl, rfl⟩
  · have e1 : decide ((1 : Int) ≤ (l.length : Int) ∧ (l.length : Int) ≤ 10) = false := by simp only [decide_eq_false_iff_not]; omega
    rw [e1] at HI
    have HE := Lib.hid (num2_no (.inl h1))
    rw [HE.out]
    clear h1 e1 HAT
    go_enter Tryd.func106, Tryd.ntmps106
    (go_wp2_with fail); (go_at_call 74; refine (HI.out _).mono ?_; rintro e w1 ⟨rfl, rfl⟩)
    go_wp2
    go_returns
    exact ⟨rfl, rfl⟩
end Go.Proofs.YtdbojdgppgphkaaDoor
