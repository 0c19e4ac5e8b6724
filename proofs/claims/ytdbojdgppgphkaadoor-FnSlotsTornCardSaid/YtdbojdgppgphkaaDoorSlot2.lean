/- What the reference reads of a slot. Conditions: each contract's own. -/
import Derived.Test.YtdbojdgppgphkaaDoorSlot
namespace Go.Proofs.YtdbojdgppgphkaaDoor
set_option linter.unusedSimpArgs false
open Go.RowKit
set_option linter.unusedVariables false
set_option linter.unnecessarySimpa false
set_option maxRecDepth 20000
theorem cut_str (l : List UInt8) (i k : Nat) (hk : k ≤ l.length) : (str l).extract i k = str ((l.take k).drop i) := by
  apply ByteArray.ext
  rw [ByteArray.data_extract]
  unfold str
  simp
  rw [List.drop_take]
theorem below_drewN {B : Nat} {w wr : World} (h : Below B w wr) (n : Nat) : Below B w (wr.drewN n) := ⟨h.os, h.tape, h.output, h.size, h.block⟩
/-- A text that begins with a plus, and has its first colon at place k. -/
theorem slotR_colon {r : List UInt8} {k : Nat} (hk : k < r.length) (hc : r[k]? = some 58) (hp : ∀ c ∈ r.take k, c ≠ 58) :
    slotR (43 :: r) = if 1 ≤ num2V (r.take k) ∧ num2V (r.take k) ≤ 9999 then (r.drop (k + 1), num2V (r.take k)) else ([], 0) := by
  have hr : r = r.take k ++ 58 :: r.drop (k + 1) := by
    obtain ⟨_, e⟩ := List.getElem?_eq_some_iff.1 hc
    rw [← e, ← List.drop_eq_getElem_cons hk, List.take_append_drop]
  obtain ⟨a, b⟩ := slot_colon hr hp
  have h0 : Lib.hasPrefix (43 :: r) [43] = true := by rw [pre_one]; simp
  unfold slotR
  rw [h0, Bool.true_and]
  show (if ((numV 9999 r).2 && decide (1 ≤ (numV 9999 r).1) && Lib.hasPrefix (numL 9999 r) [58]) = true then ((numL 9999 r).drop 1, (numV 9999 r).1) else ([], 0)) = _
  rw [a]
  by_cases h : 1 ≤ num2V (r.take k) ∧ num2V (r.take k) ≤ 9999
  · rw [if_pos (by simpa using h), if_pos h, (b h).1, (b h).2]
  · rw [if_neg (by simpa using h), if_neg h]
theorem slotR_no {r : List UInt8} (hp : ∀ c ∈ r, c ≠ 58) : slotR (43 :: r) = ([], 0) := by
  have h0 : Lib.hasPrefix (43 :: r) [43] = true := by rw [pre_one]; simp
  have h1 := slot_none hp
  unfold slotR
  rw [h0, Bool.true_and]
  show (if ((numV 9999 r).2 && decide (1 ≤ (numV 9999 r).1) && Lib.hasPrefix (numL 9999 r) [58]) = true then ((numL 9999 r).drop 1, (numV 9999 r).1) else ([], 0)) = _
  rw [h1]; rfl
theorem slotR_not {l : List UInt8} (h : l.head? ≠ some 43) : slotR l = ([], 0) := by
  have h0 : Lib.hasPrefix l [43] = false := by rw [pre_one]; simpa using h
  unfold slotR
  rw [h0]; rfl
set_option maxHeartbeats 1600000 in
set_option maxRecDepth 100000 in
theorem l8Read_c (l : List UInt8) (hl : l.length ≤ 9223372036854775806) (w : World) : Calls Tryd.prog 88 #[.string (str l)] w (RetB (.tuple #[.int .i64 (slotR l).2, .string (str (slotR l).1)]) w) := by
  have hsz := str_size l
  have HAT : Hid (∀ k (h1 : k < (str l).size) (hk : k < l.length), (str l)[k]'h1 = l[k]'hk) := Lib.hid (fun k h1 hk => by simp [str, ByteArray.getElem_eq_getElem_data])
  have HCUT : Hid (∀ i k, k ≤ l.length → (str l).extract i k = str ((l.take k).drop i)) := Lib.hid (fun i k hk => cut_str l i k hk)
  have e0 : (str []) = ⟨#[]⟩ := rfl
  obtain ⟨L, hL⟩ : ∃ L : ByteArray, L = str l := ⟨_, rfl⟩
  rw [← hL] at hsz HAT HCUT ⊢
  clear hL
  cases l with
  | nil =>
    have HE : Hid (slotR [] = ([], 0)) := Lib.hid (slotR_not (by simp))
    rw [HE.out]
    simp only
    rw [e0]
    have hz : L.size = 0 := hsz
    clear HE hsz HAT HCUT e0
    go_enter Tryd.func88, Tryd.ntmps88
    go_wp2
    go_returns
    exact ⟨rfl, by go_grown⟩
  | cons c r =>
    have hpos : 0 < L.size := by rw [hsz]; simp
    have hat := HAT.out 0 hpos (by simp)
    simp only [List.getElem_cons_zero] at hat
    have hlen : ((c :: r).length : Int) = (r.length : Int) + 1 := by simp
    by_cases hc : c = 43
    · subst hc
      have t1 : ((((L[0]'hpos).toNat : Nat) : Int) == 43) = true := by rw [hat]; rfl
      have t2 : ((((L[0]'hpos).toNat : Nat) : Int) != 43) = false := by rw [hat]; rfl
      have hz : L.size = r.length + 1 := by rw [hsz]; simp
      have HR : Hid (∀ k (h1 : k + 1 < L.size) (hk : k < r.length), (L[k + 1]'h1) = r[k]'hk) := Lib.hid (fun k h1 hk => by rw [HAT.out (k + 1) h1 (by simp; omega)]; simp)
      have HS1 : Hid (∀ k, k ≤ r.length → L.extract 1 (k + 1) = str (r.take k)) := Lib.hid (fun k hk => by rw [HCUT.out 1 (k + 1) (by simp; omega)]; simp)
      have HS2 : Hid (∀ k, k + 1 ≤ r.length → L.extract (k + 1 + 1) (r.length + 1) = str (r.drop (k + 1))) := Lib.hid (fun k hk => by rw [HCUT.out (k + 1 + 1) (r.length + 1) (by simp)]; simp)
      have hr1 : r.length ≤ 9223372036854775805 := by simp at hl; omega
      clear hsz HAT HCUT hlen hat hl
      go_enter Tryd.func88, Tryd.ntmps88
      go_wp2_with fail
      go_loopg [4] r.length (fun gk i wr => ∃ (k : Nat), gk + k = r.length ∧ i = .int .i64 ((k + 1 : Nat) : Int) ∧ Hid (∀ c ∈ r.take k, c ≠ 58) ∧ wr = w)
      case atStart => exact ⟨0, rfl, rfl, Lib.hid (by simp), rfl⟩
      case round =>
        obtain ⟨k, hgk, rfl, HP, rfl⟩ := hrel
        by_cases hk : k < r.length
        · have hz1 : k + 1 < L.size := by omega
          have hat := HR.out k hz1 hk
          by_cases h58 : r[k]'hk = 58
          · have t3 : ((((L[k + 1]'hz1).toNat : Nat) : Int) == 58) = true := by rw [hat, h58]; rfl
            have t4 : ((((L[k + 1]'hz1).toNat : Nat) : Int) != 58) = false := by rw [hat, h58]; rfl
            have t5 : (((k : Int) + 1 == (r.length : Int) + 1)) = false := by simp; omega
            have hcol := slotR_colon hk (by rw [List.getElem?_eq_getElem hk, h58]) HP.out
            have HC := Lib.hid hcol
            have HN := Lib.hid (fun W => l2Num_c (r.take k) (by rw [List.length_take]; omega) W)
            have s1 := HS1.out k (by omega)
            have s2 := HS2.out k (by omega)
            have HI := Lib.hid (fun W => l1In_c (num2V (r.take k)) 1 9999 W)
            have hk1 : (k : Int) + 1 ≤ (r.length : Int) := by omega
            clear hcol hat h58 HR HS1 HS2 HP
            generalize num2V (r.take k) = x at *
            generalize r.take k = p at *
            generalize r.drop (k + 1) = q at *
            by_cases hx : 1 ≤ x ∧ x ≤ 9999
            · have e1 : decide ((1 : Int) ≤ x ∧ x ≤ 9999) = true := by simpa using hx
              rw [e1] at HI
              have HE : Hid (slotR (43 :: r) = (q, x)) := Lib.hid (by rw [HC.out, if_pos hx])
              obtain ⟨hx1, hx2⟩ := hx
              clear e1 HC
              go_wp2_with fail
              refine (HN.out _).mono ?_
              rintro e w1 ⟨rfl, rfl⟩
              go_wp2_with fail
              refine (HI.out _).mono ?_
              rintro e w1 ⟨rfl, rfl⟩
              go_wp2_with fail
              go_quiet (fail)
              go_wp2
              go_returns
              rw [HE.out]
              simp only
              rw [← s2]
              exact ⟨rfl, below_drewN (Below.refl _ _) _⟩
            · have e1 : decide ((1 : Int) ≤ x ∧ x ≤ 9999) = false := by simpa using hx
              rw [e1] at HI
              have HE : Hid (slotR (43 :: r) = ([], 0)) := Lib.hid (by rw [HC.out, if_neg hx])
              clear e1 HC hx
              go_wp2_with fail
              refine (HN.out _).mono ?_
              rintro e w1 ⟨rfl, rfl⟩
              go_wp2_with fail
              refine (HI.out _).mono ?_
              rintro e w1 ⟨rfl, rfl⟩
              go_wp2
              go_returns
              rw [HE.out]
              exact ⟨rfl, Below.refl _ _⟩
          · have hne : (((r[k]'hk).toNat : Nat) : Int) ≠ 58 := fun e => h58 (UInt8.toNat_inj.1 (by show (r[k]'hk).toNat = 58; omega))
            have t3 : ((((L[k + 1]'hz1).toNat : Nat) : Int) == 58) = false := by rw [hat]; simpa using hne
            have t4 : ((((L[k + 1]'hz1).toNat : Nat) : Int) != 58) = true := by rw [hat]; simpa using hne
            have HP2 : Hid (∀ c ∈ r.take (k + 1), c ≠ 58) := Lib.hid (fun c hc => by
              rw [List.take_add_one, List.getElem?_eq_getElem hk] at hc
              rcases List.mem_append.1 hc with h | h
              · exact HP.out c h
              · simp at h; rw [h]; exact h58)
            obtain ⟨gm, rfl⟩ : ∃ m, gk = m + 1 := ⟨gk - 1, by omega⟩
            clear hat hne h58 HR HS1 HS2 HP
            go_wp2_with fail
            go_roundg gm
            case measure => omega
            case rel =>
              go_light
              exact ⟨k + 1, by omega, by go_num, HP2, rfl⟩
        · have hkl : k = r.length := by omega
          have HE : Hid (slotR (43 :: r) = ([], 0)) := Lib.hid (slotR_no (by have := HP.out; rwa [hkl, List.take_length] at this))
          have t5 : (((k : Int) + 1 == (r.length : Int) + 1)) = true := by simp; omega
          clear HR HS1 HS2 HP
          go_wp2
          go_returns
          rw [HE.out]
          exact ⟨rfl, Below.refl _ _⟩
    · have HE : Hid (slotR (c :: r) = ([], 0)) := Lib.hid (slotR_not (by simpa using hc))
      have hne : (c.toNat : Int) ≠ 43 := fun e => hc (UInt8.toNat_inj.1 (by show c.toNat = 43; omega))
      have t1 : ((((L[0]'hpos).toNat : Nat) : Int) == 43) = false := by rw [hat]; simpa using hne
      have t2 : ((((L[0]'hpos).toNat : Nat) : Int) != 43) = true := by rw [hat]; simpa using hne
      rw [HE.out]
      simp only
      rw [e0]
      clear HE HAT HCUT e0 hat hne hc
      go_enter Tryd.func88, Tryd.ntmps88
      go_wp2
      go_returns
      exact ⟨rfl, by go_grown⟩
end Go.Proofs.YtdbojdgppgphkaaDoor
