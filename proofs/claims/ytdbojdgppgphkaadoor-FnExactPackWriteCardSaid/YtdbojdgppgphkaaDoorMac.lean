/- The contract of the program's HMAC. Conditions: each contract's own. -/
import Derived.Test.YtdbojdgppgphkaaDoorPad
namespace Go.Proofs.YtdbojdgppgphkaaDoor
set_option linter.unusedSimpArgs false
open Go.RowKit
set_option linter.unusedVariables false
set_option linter.unnecessarySimpa false
/-- A key of 64 bytes, of which the first n have been put together with c. -/
def kk (K : List Int) (c : Int) (n : Nat) : List Int := (List.range 64).map (fun i => if i < n then xor8 (K.getD i 0) c else K.getD i 0)
theorem kk_len (K : List Int) (c : Int) (n : Nat) : (kk K c n).length = 64 := by simp [kk]
theorem kk_at (K : List Int) (c : Int) (n : Nat) (h : n < 64) : (kk K c n)[n]? = some (K.getD n 0) := by
  simp [kk, h]
theorem kk_set (K : List Int) (c : Int) (n : Nat) (h : n < 64) : (kk K c n).set n (xor8 (K.getD n 0) c) = kk K c (n + 1) := by
  apply List.ext_getElem?
  intro i
  by_cases hi : i = n
  · subst hi
    rw [List.getElem?_set_self (by rw [kk_len]; exact h)]
    simp [kk, h]
  · rw [List.getElem?_set_ne (by omega)]
    unfold kk
    simp only [List.getElem?_map]
    by_cases h64 : i < 64
    · simp only [List.getElem?_range h64, Option.map_some]
      have : (i < n + 1) ↔ (i < n) := by omega
      simp [this]
    · rw [List.getElem?_eq_none (by simp; omega)]; rfl
theorem kk_all (K : List Int) (c : Int) : kk K c 64 = padTo K c 64 := by
  unfold kk padTo
  apply List.map_congr_left
  intro i hi
  rw [if_pos (List.mem_range.1 hi)]
theorem kk_none {K : List Int} (c : Int) (h : K.length ≤ 64) : kk K c 0 = K ++ List.replicate (64 - K.length) 0 := by
  apply List.ext_getElem?
  intro i
  unfold kk
  by_cases h64 : i < 64
  · simp only [List.getElem?_map, List.getElem?_range h64, Option.map_some, Nat.not_lt_zero, if_false]
    by_cases hi : i < K.length
    · rw [List.getElem?_append_left hi]
      simp [List.getD, hi]
    · rw [List.getElem?_append_right (by omega), List.getElem?_replicate, if_pos (by omega)]
      simp [List.getD, List.getElem?_eq_none (show K.length ≤ i by omega)]
  · rw [List.getElem?_eq_none (by simp; omega), List.getElem?_eq_none (by simp; omega)]
theorem below_setRow {B k : Nat} {a w : World} (h : Below B a w) (hk : B ≤ k) (cs : Array Value) : Below B a (w.setRow k cs) :=
  h.trans ⟨rfl, rfl, rfl, by simp, fun i hi => setRow_other w k i cs (by omega)⟩
theorem conv_blk {w : World} {g t n : Nat} {xs : List Int} (h : Blk w g t (u8s xs)) (hl : xs.length = n) : (convert 24 9 (.slice (some ⟨g, 0, none⟩) n n)).run Tryd.prog w = .ok (.string (strOfNums xs)) w :=
  run_convert_bytes_arg (P := Tryd.prog) w 24 5 Tryd.underlying24 Tryd.underlying5 g 0 n n xs hl (fun i hi => by
    obtain ⟨x, hx⟩ := some_at hl hi
    rw [getD_of hx, Nat.zero_add]
    exact h.cell (u8s_at hx)) 9 Tryd.underlying9
theorem conv_blk2 {w : World} {g t n : Nat} {xs : List Int} {D : List Value} (h : Blk w g t D) (hD : D = u8s xs) (hl : xs.length = n) : (convert 24 9 (.slice (some ⟨g, 0, none⟩) n n)).run Tryd.prog w = .ok (.string (strOfNums xs)) w := by
  subst hD; exact conv_blk h hl
/-- A key laid into 64 noughts. -/
theorem copy_key (W : World) (ty g : Nat) (s : ByteArray) (c : Int) (hs : s.size ≤ 64) (h : Blk W g 127 (List.replicate 64 (.int .u8 0))) :
    (Builtin.copy_ #[24, 9] ty #[.slice (some ⟨g, 0, none⟩) 64 64, .string s]).run Tryd.prog W = .ok (goInt s.size) (W.setRow g (u8s (kk (bytesI s) c 0)).toArray) := by
  have := run_copy_cut (P := Tryd.prog) W 24 9 ty 5 g 0 64 64 s.size s (List.replicate 64 (Value.int .u8 0)).toArray 127 Tryd.underlying24 info_u8 h (Nat.min_eq_left hs) (by simp; omega)
  have e : (u8s (bytesI s)).take s.size = u8s (bytesI s) := List.take_of_length_le (by rw [u8s_len, bytesI_len]; exact Nat.le_refl _)
  have e2 : List.drop (0 + s.size) (List.replicate 64 (Value.int .u8 0)).toArray.toList = List.replicate (64 - s.size) (Value.int .u8 0) := by
    rw [Nat.zero_add]; exact List.drop_replicate
  have e3 : u8s (kk (bytesI s) c 0) = u8s (bytesI s) ++ List.replicate (64 - s.size) (Value.int .u8 0) := by
    rw [kk_none c (by rw [bytesI_len]; exact hs), bytesI_len]
    unfold u8s
    rw [List.map_append, List.map_replicate]
  rw [this, byteCells_I, e, e2, e3]
  rfl
theorem hashOf2_c (a b : ByteArray) (P : List Int) (hP : P = bytesI a ++ bytesI b) (hsz : P.length ≤ 1152921504606840000) (A : Option Addr) (w : World) (hr : Rd w w.heap.size 1 A 2 [.string a, .string b]) (hK : KT w) (hz : 2 < w.heap.size) :
    Calls Tryd.prog 92 #[.slice A 2 2] w (fun e w' => ∃ D, D = u8s (digest P) ∧ e = .returned (.agg D.toArray) ∧ Below w.heap.size w w') := by
  have hc : catB [a, b] = P := by rw [hP]; simp [catB]
  have := hashOf_c A 2 2 [a, b] w hr (by rw [hc]; exact hsz) hK hz (by omega)
  rw [hc] at this
  exact this.mono fun e w' h => ⟨_, rfl, h.1, h.2⟩
theorem hashOf1_c (a : ByteArray) (hsz : a.size ≤ 1152921504606840000) (A : Option Addr) (w : World) (hr : Rd w w.heap.size 1 A 1 [.string a]) (hK : KT w) (hz : 2 < w.heap.size) :
    Calls Tryd.prog 92 #[.slice A 1 1] w (fun e w' => ∃ D, D = u8s (digest (bytesI a)) ∧ e = .returned (.agg D.toArray) ∧ Below w.heap.size w w') := by
  have hc : catB [a] = bytesI a := by simp [catB]
  have := hashOf_c A 1 1 [a] w hr (by rw [hc, bytesI_len]; exact hsz) hK hz (by omega)
  rw [hc] at this
  exact this.mono fun e w' h => ⟨_, rfl, h.1, h.2⟩
theorem two_rd (w : World) (t : Nat) (x y : Value) : Rd (w.alloc (.cells #[x, y] t)) (w.alloc (.cells #[x, y] t)).heap.size 1 (some ⟨w.heap.size, 0, none⟩) 2 [x, y] :=
  Rd.of_own (base := 0) (e := t) (c := 2) (own_of_blk (Blk.new w t [x, y]) (Nat.zero_le _) rfl (by unfold maxLen; omega))
/-- A whole sum stored into a new block. -/
theorem store_sum (w : World) (D : List Value) (hl : D.length = 32) (h1 : ∀ v ∈ D, v.oneCell' = true) (g : Nat) (h : Blk w g 125 (List.replicate 32 (.int .u8 0))) : (storeCells ⟨g, 0, none⟩ D).run Tryd.prog w = .ok () (w.setRow g D.toArray) := by
  have := run_storeCells_at Tryd.prog g 0 125 D 0 _ w h (by rw [hl]; simp) h1
  rw [this, hl]
  simp
set_option maxHeartbeats 1600000 in
set_option maxRecDepth 100000 in
theorem hashMac_c (k s : ByteArray) (hk : k.size ≤ 1099511627776) (hs : s.size ≤ 1099511627000) (w : World) (hK : KT w) (hz : 2 < w.heap.size) : Calls Tryd.prog 48 #[.string k, .string s] w (RetB (.string (strOfNums (hexL (digest (padTo (bytesI (keyS k)) 92 64 ++ digest (padTo (bytesI (keyS k)) 54 64 ++ bytesI s)))))) w) := by
  obtain ⟨KS, hKS⟩ : ∃ KS, KS = keyS k := ⟨_, rfl⟩
  have hkz := keyS_size k
  rw [← hKS] at hkz ⊢
  have HKS := Lib.hid hKS
  have HK := Lib.hid hK
  clear hKS hK
  go_enter Tryd.func48, Tryd.ntmps48
  go_upto_if 12 with (fail)
  go_cut [0, 5, 12] from 13 to 17 (fun v0 v5 v12 wx => v0 = .string KS ∧ Hid (Below w.heap.size w wx))
  case first =>
    by_cases hb : 64 < k.size
    · have HE : Hid (strOfNums (digest (bytesI k)) = KS) := by
        show _ = _
        rw [HKS.out, keyS, if_pos hb]
      have hdl := digest_len (bytesI k)
      have HC := Lib.hid (hashOf1_c k (by omega))
      generalize digest (bytesI k) = DK at *
      go_wp2_with fail
      refine (HC.out _ _ (Rd.of_own (own_of_blk (Blk.new w 9 [.string k]) (Nat.le_refl _) rfl (by unfold maxLen; omega))) (HK.out.up (Below.alloc (Below.refl _ _) (Nat.le_refl _) _) hz) (by (try simp); try omega)).mono ?_
      rintro e w1 ⟨D, hD, rfl, b1⟩
      have B1 := Lib.hid (below_via (w := w) (by go_grown) b1)
      have hl := hdl
      have hDl : D.length = 32 := by rw [hD, u8s_len, hl]
      have HDl := Lib.hid hDl
      have hst : (storeCells ⟨w1.heap.size, 0, none⟩ D).run Tryd.prog (w1.alloc (.cells #[Value.int .u8 0, Value.int .u8 0, Value.int .u8 0, Value.int .u8 0, Value.int .u8 0, Value.int .u8 0, Value.int .u8 0, Value.int .u8 0, Value.int .u8 0, Value.int .u8 0, Value.int .u8 0, Value.int .u8 0, Value.int .u8 0, Value.int .u8 0, Value.int .u8 0, Value.int .u8 0, Value.int .u8 0, Value.int .u8 0, Value.int .u8 0, Value.int .u8 0, Value.int .u8 0, Value.int .u8 0, Value.int .u8 0, Value.int .u8 0, Value.int .u8 0, Value.int .u8 0, Value.int .u8 0, Value.int .u8 0, Value.int .u8 0, Value.int .u8 0, Value.int .u8 0, Value.int .u8 0] 125)) = .ok () ((w1.alloc (.cells #[Value.int .u8 0, Value.int .u8 0, Value.int .u8 0, Value.int .u8 0, Value.int .u8 0, Value.int .u8 0, Value.int .u8 0, Value.int .u8 0, Value.int .u8 0, Value.int .u8 0, Value.int .u8 0, Value.int .u8 0, Value.int .u8 0, Value.int .u8 0, Value.int .u8 0, Value.int .u8 0, Value.int .u8 0, Value.int .u8 0, Value.int .u8 0, Value.int .u8 0, Value.int .u8 0, Value.int .u8 0, Value.int .u8 0, Value.int .u8 0, Value.int .u8 0, Value.int .u8 0, Value.int .u8 0, Value.int .u8 0, Value.int .u8 0, Value.int .u8 0, Value.int .u8 0, Value.int .u8 0] 125)).setRow w1.heap.size D.toArray) := store_sum (w1.alloc (.cells #[Value.int .u8 0, Value.int .u8 0, Value.int .u8 0, Value.int .u8 0, Value.int .u8 0, Value.int .u8 0, Value.int .u8 0, Value.int .u8 0, Value.int .u8 0, Value.int .u8 0, Value.int .u8 0, Value.int .u8 0, Value.int .u8 0, Value.int .u8 0, Value.int .u8 0, Value.int .u8 0, Value.int .u8 0, Value.int .u8 0, Value.int .u8 0, Value.int .u8 0, Value.int .u8 0, Value.int .u8 0, Value.int .u8 0, Value.int .u8 0, Value.int .u8 0, Value.int .u8 0, Value.int .u8 0, Value.int .u8 0, Value.int .u8 0, Value.int .u8 0, Value.int .u8 0, Value.int .u8 0] 125)) D hDl (by rw [hD]; simp [u8s, Value.oneCell']) w1.heap.size (Blk.new w1 125 (List.replicate 32 (Value.int .u8 0)))
      have hB : Blk ((w1.alloc (.cells #[Value.int .u8 0, Value.int .u8 0, Value.int .u8 0, Value.int .u8 0, Value.int .u8 0, Value.int .u8 0, Value.int .u8 0, Value.int .u8 0, Value.int .u8 0, Value.int .u8 0, Value.int .u8 0, Value.int .u8 0, Value.int .u8 0, Value.int .u8 0, Value.int .u8 0, Value.int .u8 0, Value.int .u8 0, Value.int .u8 0, Value.int .u8 0, Value.int .u8 0, Value.int .u8 0, Value.int .u8 0, Value.int .u8 0, Value.int .u8 0, Value.int .u8 0, Value.int .u8 0, Value.int .u8 0, Value.int .u8 0, Value.int .u8 0, Value.int .u8 0, Value.int .u8 0, Value.int .u8 0] 125)).setRow w1.heap.size D.toArray) w1.heap.size 125 D := setRow_heap (w1.alloc (.cells #[Value.int .u8 0, Value.int .u8 0, Value.int .u8 0, Value.int .u8 0, Value.int .u8 0, Value.int .u8 0, Value.int .u8 0, Value.int .u8 0, Value.int .u8 0, Value.int .u8 0, Value.int .u8 0, Value.int .u8 0, Value.int .u8 0, Value.int .u8 0, Value.int .u8 0, Value.int .u8 0, Value.int .u8 0, Value.int .u8 0, Value.int .u8 0, Value.int .u8 0, Value.int .u8 0, Value.int .u8 0, Value.int .u8 0, Value.int .u8 0, Value.int .u8 0, Value.int .u8 0, Value.int .u8 0, Value.int .u8 0, Value.int .u8 0, Value.int .u8 0, Value.int .u8 0, Value.int .u8 0] 125)) w1.heap.size _ D.toArray 125 (0, 0) (Blk.new w1 125 (List.replicate 32 (Value.int .u8 0)))
      have hcv := conv_blk2 hB hD hdl
      rw [HE.out] at hcv
      have B2 := Lib.hid (below_setRow (B1.out.alloc B1.out.size (.cells #[Value.int .u8 0, Value.int .u8 0, Value.int .u8 0, Value.int .u8 0, Value.int .u8 0, Value.int .u8 0, Value.int .u8 0, Value.int .u8 0, Value.int .u8 0, Value.int .u8 0, Value.int .u8 0, Value.int .u8 0, Value.int .u8 0, Value.int .u8 0, Value.int .u8 0, Value.int .u8 0, Value.int .u8 0, Value.int .u8 0, Value.int .u8 0, Value.int .u8 0, Value.int .u8 0, Value.int .u8 0, Value.int .u8 0, Value.int .u8 0, Value.int .u8 0, Value.int .u8 0, Value.int .u8 0, Value.int .u8 0, Value.int .u8 0, Value.int .u8 0, Value.int .u8 0, Value.int .u8 0] 125)) B1.out.size D.toArray)
      have HD := Lib.hid hD
      clear hD hB b1 HE hdl
      go_wp2_with fail
      go_meet
      exact ⟨rfl, B2⟩
    · have he : k = KS := by rw [HKS.out, keyS, if_neg hb]
      subst he
      go_wp2
      go_meet
      exact ⟨rfl, Below.refl _ _⟩
  case rest =>
    obtain ⟨rfl, HB0⟩ := hcut
    have hbs := HB0.out.size
    have K1 := padTo_len (bytesI KS) 92 64
    have K2 := padTo_len (bytesI KS) 54 64
    have K3 := padTo_byte (bytesI KS) 92 64
    have K4 := padTo_byte (bytesI KS) 54 64
    have K5 := kk_all (bytesI KS) 92
    have K6 := kk_all (bytesI KS) 54
    generalize padTo (bytesI KS) 92 64 = P1 at *
    generalize padTo (bytesI KS) 54 64 = P2 at *
    have hq : bytesI (strOfNums P2) = P2 := bytesI_strOfNums P2 K4
    have HC1 := Lib.hid (hashOf2_c (strOfNums P2) s (P2 ++ bytesI s) (by rw [hq]) (by rw [List.length_append, K2, bytesI_len]; omega))
    have hl3 := digest_len (P2 ++ bytesI s)
    have hb3 := digest_byte (P2 ++ bytesI s)
    generalize digest (P2 ++ bytesI s) = D3 at *
    have HC2 := Lib.hid (hashOf2_c (strOfNums P1) (strOfNums D3) (P1 ++ D3) (by rw [bytesI_strOfNums P1 K3, bytesI_strOfNums D3 hb3]) (by rw [List.length_append, K1, hl3]; omega))
    have hl4 := digest_len (P1 ++ D3)
    have hb4 := digest_byte (P1 ++ D3)
    generalize digest (P1 ++ D3) = D4 at *
    have HC3 := Lib.hid (hashFigures_c D4 hl4 hb4)
    generalize strOfNums (hexL D4) = Q5 at *
    have HL3 := Lib.hid hl3
    have HK1 := Lib.hid K1
    have HK2 := Lib.hid K2
    have HK5 := Lib.hid K5
    have HK6 := Lib.hid K6
    clear hq hl3 hb3 hl4 hb4 K1 K2 K3 K4 K5 K6
    have W0 : ∃ W0 : World, W0 = (wc.alloc (.cells #[Value.int .u8 0, Value.int .u8 0, Value.int .u8 0, Value.int .u8 0, Value.int .u8 0, Value.int .u8 0, Value.int .u8 0, Value.int .u8 0, Value.int .u8 0, Value.int .u8 0, Value.int .u8 0, Value.int .u8 0, Value.int .u8 0, Value.int .u8 0, Value.int .u8 0, Value.int .u8 0, Value.int .u8 0, Value.int .u8 0, Value.int .u8 0, Value.int .u8 0, Value.int .u8 0, Value.int .u8 0, Value.int .u8 0, Value.int .u8 0, Value.int .u8 0, Value.int .u8 0, Value.int .u8 0, Value.int .u8 0, Value.int .u8 0, Value.int .u8 0, Value.int .u8 0, Value.int .u8 0, Value.int .u8 0, Value.int .u8 0, Value.int .u8 0, Value.int .u8 0, Value.int .u8 0, Value.int .u8 0, Value.int .u8 0, Value.int .u8 0, Value.int .u8 0, Value.int .u8 0, Value.int .u8 0, Value.int .u8 0, Value.int .u8 0, Value.int .u8 0, Value.int .u8 0, Value.int .u8 0, Value.int .u8 0, Value.int .u8 0, Value.int .u8 0, Value.int .u8 0, Value.int .u8 0, Value.int .u8 0, Value.int .u8 0, Value.int .u8 0, Value.int .u8 0, Value.int .u8 0, Value.int .u8 0, Value.int .u8 0, Value.int .u8 0, Value.int .u8 0, Value.int .u8 0, Value.int .u8 0] 127)).alloc (.cells #[Value.int .u8 0, Value.int .u8 0, Value.int .u8 0, Value.int .u8 0, Value.int .u8 0, Value.int .u8 0, Value.int .u8 0, Value.int .u8 0, Value.int .u8 0, Value.int .u8 0, Value.int .u8 0, Value.int .u8 0, Value.int .u8 0, Value.int .u8 0, Value.int .u8 0, Value.int .u8 0, Value.int .u8 0, Value.int .u8 0, Value.int .u8 0, Value.int .u8 0, Value.int .u8 0, Value.int .u8 0, Value.int .u8 0, Value.int .u8 0, Value.int .u8 0, Value.int .u8 0, Value.int .u8 0, Value.int .u8 0, Value.int .u8 0, Value.int .u8 0, Value.int .u8 0, Value.int .u8 0, Value.int .u8 0, Value.int .u8 0, Value.int .u8 0, Value.int .u8 0, Value.int .u8 0, Value.int .u8 0, Value.int .u8 0, Value.int .u8 0, Value.int .u8 0, Value.int .u8 0, Value.int .u8 0, Value.int .u8 0, Value.int .u8 0, Value.int .u8 0, Value.int .u8 0, Value.int .u8 0, Value.int .u8 0, Value.int .u8 0, Value.int .u8 0, Value.int .u8 0, Value.int .u8 0, Value.int .u8 0, Value.int .u8 0, Value.int .u8 0, Value.int .u8 0, Value.int .u8 0, Value.int .u8 0, Value.int .u8 0, Value.int .u8 0, Value.int .u8 0, Value.int .u8 0, Value.int .u8 0] 127) := ⟨_, rfl⟩
    obtain ⟨W0, hW0⟩ := W0
    have b6 : Blk W0 wc.heap.size 127 (List.replicate 64 (.int .u8 0)) := hW0 ▸ (Blk.new wc 127 (List.replicate 64 (.int .u8 0))).alloc _
    have b7 : Blk W0 (wc.heap.size + 1) 127 (List.replicate 64 (.int .u8 0)) := by
      have := Blk.new (wc.alloc (.cells #[Value.int .u8 0, Value.int .u8 0, Value.int .u8 0, Value.int .u8 0, Value.int .u8 0, Value.int .u8 0, Value.int .u8 0, Value.int .u8 0, Value.int .u8 0, Value.int .u8 0, Value.int .u8 0, Value.int .u8 0, Value.int .u8 0, Value.int .u8 0, Value.int .u8 0, Value.int .u8 0, Value.int .u8 0, Value.int .u8 0, Value.int .u8 0, Value.int .u8 0, Value.int .u8 0, Value.int .u8 0, Value.int .u8 0, Value.int .u8 0, Value.int .u8 0, Value.int .u8 0, Value.int .u8 0, Value.int .u8 0, Value.int .u8 0, Value.int .u8 0, Value.int .u8 0, Value.int .u8 0, Value.int .u8 0, Value.int .u8 0, Value.int .u8 0, Value.int .u8 0, Value.int .u8 0, Value.int .u8 0, Value.int .u8 0, Value.int .u8 0, Value.int .u8 0, Value.int .u8 0, Value.int .u8 0, Value.int .u8 0, Value.int .u8 0, Value.int .u8 0, Value.int .u8 0, Value.int .u8 0, Value.int .u8 0, Value.int .u8 0, Value.int .u8 0, Value.int .u8 0, Value.int .u8 0, Value.int .u8 0, Value.int .u8 0, Value.int .u8 0, Value.int .u8 0, Value.int .u8 0, Value.int .u8 0, Value.int .u8 0, Value.int .u8 0, Value.int .u8 0, Value.int .u8 0, Value.int .u8 0] 127)) 127 (List.replicate 64 (.int .u8 0))
      rw [hW0]
      simpa using this
    have B0 := Lib.hid (show Below w.heap.size w W0 from hW0 ▸ ((HB0.out.alloc hbs (.cells #[Value.int .u8 0, Value.int .u8 0, Value.int .u8 0, Value.int .u8 0, Value.int .u8 0, Value.int .u8 0, Value.int .u8 0, Value.int .u8 0, Value.int .u8 0, Value.int .u8 0, Value.int .u8 0, Value.int .u8 0, Value.int .u8 0, Value.int .u8 0, Value.int .u8 0, Value.int .u8 0, Value.int .u8 0, Value.int .u8 0, Value.int .u8 0, Value.int .u8 0, Value.int .u8 0, Value.int .u8 0, Value.int .u8 0, Value.int .u8 0, Value.int .u8 0, Value.int .u8 0, Value.int .u8 0, Value.int .u8 0, Value.int .u8 0, Value.int .u8 0, Value.int .u8 0, Value.int .u8 0, Value.int .u8 0, Value.int .u8 0, Value.int .u8 0, Value.int .u8 0, Value.int .u8 0, Value.int .u8 0, Value.int .u8 0, Value.int .u8 0, Value.int .u8 0, Value.int .u8 0, Value.int .u8 0, Value.int .u8 0, Value.int .u8 0, Value.int .u8 0, Value.int .u8 0, Value.int .u8 0, Value.int .u8 0, Value.int .u8 0, Value.int .u8 0, Value.int .u8 0, Value.int .u8 0, Value.int .u8 0, Value.int .u8 0, Value.int .u8 0, Value.int .u8 0, Value.int .u8 0, Value.int .u8 0, Value.int .u8 0, Value.int .u8 0, Value.int .u8 0, Value.int .u8 0, Value.int .u8 0] 127)).alloc (by simp; omega) _))
    have hc6 := copy_key W0 3 wc.heap.size KS 54 hkz b6
    go_upto_region 5 with (fail)
    rw [← hW0]
    clear hW0
    have e6 := setRow_heap W0 wc.heap.size _ (u8s (kk (bytesI KS) 54 0)).toArray 127 (0, 0) b6
    have e7 : Blk (W0.setRow wc.heap.size (u8s (kk (bytesI KS) 54 0)).toArray) (wc.heap.size + 1) 127 (List.replicate 64 (.int .u8 0)) := (setRow_other W0 wc.heap.size (wc.heap.size + 1) _ (by omega)).trans b7
    have hc7 := copy_key (W0.setRow wc.heap.size (u8s (kk (bytesI KS) 54 0)).toArray) 3 (wc.heap.size + 1) KS 92 hkz e7
    go_upto_region 7 with (fail)
    have f6 : Blk ((W0.setRow wc.heap.size (u8s (kk (bytesI KS) 54 0)).toArray).setRow (wc.heap.size + 1) (u8s (kk (bytesI KS) 92 0)).toArray) wc.heap.size 127 (u8s (kk (bytesI KS) 54 0)) := (setRow_other _ (wc.heap.size + 1) wc.heap.size _ (by omega)).trans e6
    have f7 : Blk ((W0.setRow wc.heap.size (u8s (kk (bytesI KS) 54 0)).toArray).setRow (wc.heap.size + 1) (u8s (kk (bytesI KS) 92 0)).toArray) (wc.heap.size + 1) 127 (u8s (kk (bytesI KS) 92 0)) := setRow_heap _ (wc.heap.size + 1) _ _ 127 (0, 0) e7
    have F6 := Lib.hid f6
    have F7 := Lib.hid f7
    have FB := Lib.hid (below_setRow (below_setRow B0.out hbs (u8s (kk (bytesI KS) 54 0)).toArray) (show w.heap.size ≤ wc.heap.size + 1 by omega) (u8s (kk (bytesI KS) 92 0)).toArray)
    clear f6 f7 hc6 hc7 e6 e7 b6 b7 B0
    generalize (W0.setRow wc.heap.size (u8s (kk (bytesI KS) 54 0)).toArray).setRow (wc.heap.size + 1) (u8s (kk (bytesI KS) 92 0)).toArray = W1 at *
    clear HB0
    generalize hC0 : wc.heap.size = C0 at *
    go_wp2
    go_loopg [24] 64 (fun gk i wr => ∃ (n : Nat), gk + n = 64 ∧ i = .int .i64 n ∧ Hid (Blk wr C0 127 (u8s (kk (bytesI KS) 54 n))) ∧ Hid (Blk wr (C0 + 1) 127 (u8s (kk (bytesI KS) 92 n))) ∧ Hid (Below w.heap.size w wr))
    case atStart => exact ⟨0, rfl, rfl, F6, F7, FB⟩
    case round =>
      obtain ⟨n, hgk, rfl, H6, H7, HB⟩ := hrel
      by_cases hn : n < 64
      · obtain ⟨gk, rfl⟩ : ∃ m, gk = m + 1 := ⟨gk - 1, by omega⟩
        have c6 := H6.out.cell (u8s_at (kk_at (bytesI KS) 54 n hn))
        have c7 := H7.out.cell (u8s_at (kk_at (bytesI KS) 92 n hn))
        have g6 := H6.out.free
        have g7 := H7.out.free
        have S6 := Lib.hid (kk_set (bytesI KS) 54 n hn)
        have S7 := Lib.hid (kk_set (bytesI KS) 92 n hn)
        generalize (bytesI KS).getD n 0 = y at *
        go_wp2
        go_roundg gk
        case measure => omega
        case rel =>
          go_light
          refine ⟨n + 1, by omega, by go_num, ?_, ?_, (HB.out.setCell (by simp; omega) _).setCell (by simp; omega) _⟩
          · show Blk _ _ _ _
            rw [← S6.out]
            exact (u8s_set _ _ _ ▸ (H6.out.set_ n (.int .u8 (xor8 y 54))) : Blk _ _ _ _).far (by simp) _
          · show Blk _ _ _ _
            rw [← S7.out]
            exact (u8s_set _ _ _ ▸ ((H7.out.far (p := ⟨C0, n, none⟩) (by simp) (.int .u8 (xor8 y 54))).set_ n (.int .u8 (xor8 y 92))) : Blk _ _ _ _)
      · obtain rfl : n = 64 := by omega
        have h6 := H6.out
        have h7 := H7.out
        rw [HK6.out] at h6
        rw [HK5.out] at h7
        have hcv6 := conv_blk h6 HK2.out
        have A7 := Lib.hid h7
        have hwz := HB.out.size
        have hC1 : C0 + 1 < wr.heap.size := h7.lt
        clear h6 h7 H6 H7 HK5 HK6 F6 F7 FB
        go_wp2_with fail
        refine (HC1.out _ _ (two_rd wr 9 _ _) (HK.out.up (HB.out.alloc hwz _) hz) (by (try simp); try omega)).mono ?_
        rintro e w5 ⟨D, hD, rfl, b5⟩
        have B5 := Lib.hid (below_via HB.out (below_via (w := wr) (by go_grown) b5))
        have hs5 := b5.size
        simp at hs5
        have A7' := Lib.hid ((A7.out.alloc (.cells #[.string (strOfNums P2), .string s] 9)).up b5)
        have hDl : D.length = 32 := by rw [hD, u8s_len, HL3.out]
        have HDl := Lib.hid hDl
        have hst : (storeCells ⟨w5.heap.size, 0, none⟩ D).run Tryd.prog (w5.alloc (.cells #[Value.int .u8 0, Value.int .u8 0, Value.int .u8 0, Value.int .u8 0, Value.int .u8 0, Value.int .u8 0, Value.int .u8 0, Value.int .u8 0, Value.int .u8 0, Value.int .u8 0, Value.int .u8 0, Value.int .u8 0, Value.int .u8 0, Value.int .u8 0, Value.int .u8 0, Value.int .u8 0, Value.int .u8 0, Value.int .u8 0, Value.int .u8 0, Value.int .u8 0, Value.int .u8 0, Value.int .u8 0, Value.int .u8 0, Value.int .u8 0, Value.int .u8 0, Value.int .u8 0, Value.int .u8 0, Value.int .u8 0, Value.int .u8 0, Value.int .u8 0, Value.int .u8 0, Value.int .u8 0] 125)) = .ok () ((w5.alloc (.cells #[Value.int .u8 0, Value.int .u8 0, Value.int .u8 0, Value.int .u8 0, Value.int .u8 0, Value.int .u8 0, Value.int .u8 0, Value.int .u8 0, Value.int .u8 0, Value.int .u8 0, Value.int .u8 0, Value.int .u8 0, Value.int .u8 0, Value.int .u8 0, Value.int .u8 0, Value.int .u8 0, Value.int .u8 0, Value.int .u8 0, Value.int .u8 0, Value.int .u8 0, Value.int .u8 0, Value.int .u8 0, Value.int .u8 0, Value.int .u8 0, Value.int .u8 0, Value.int .u8 0, Value.int .u8 0, Value.int .u8 0, Value.int .u8 0, Value.int .u8 0, Value.int .u8 0, Value.int .u8 0] 125)).setRow w5.heap.size D.toArray) := store_sum (w5.alloc (.cells #[Value.int .u8 0, Value.int .u8 0, Value.int .u8 0, Value.int .u8 0, Value.int .u8 0, Value.int .u8 0, Value.int .u8 0, Value.int .u8 0, Value.int .u8 0, Value.int .u8 0, Value.int .u8 0, Value.int .u8 0, Value.int .u8 0, Value.int .u8 0, Value.int .u8 0, Value.int .u8 0, Value.int .u8 0, Value.int .u8 0, Value.int .u8 0, Value.int .u8 0, Value.int .u8 0, Value.int .u8 0, Value.int .u8 0, Value.int .u8 0, Value.int .u8 0, Value.int .u8 0, Value.int .u8 0, Value.int .u8 0, Value.int .u8 0, Value.int .u8 0, Value.int .u8 0, Value.int .u8 0] 125)) D hDl (by rw [hD]; simp [u8s, Value.oneCell']) w5.heap.size (Blk.new w5 125 (List.replicate 32 (Value.int .u8 0)))
        have hB : Blk ((w5.alloc (.cells #[Value.int .u8 0, Value.int .u8 0, Value.int .u8 0, Value.int .u8 0, Value.int .u8 0, Value.int .u8 0, Value.int .u8 0, Value.int .u8 0, Value.int .u8 0, Value.int .u8 0, Value.int .u8 0, Value.int .u8 0, Value.int .u8 0, Value.int .u8 0, Value.int .u8 0, Value.int .u8 0, Value.int .u8 0, Value.int .u8 0, Value.int .u8 0, Value.int .u8 0, Value.int .u8 0, Value.int .u8 0, Value.int .u8 0, Value.int .u8 0, Value.int .u8 0, Value.int .u8 0, Value.int .u8 0, Value.int .u8 0, Value.int .u8 0, Value.int .u8 0, Value.int .u8 0, Value.int .u8 0] 125)).setRow w5.heap.size D.toArray) w5.heap.size 125 D := setRow_heap (w5.alloc (.cells #[Value.int .u8 0, Value.int .u8 0, Value.int .u8 0, Value.int .u8 0, Value.int .u8 0, Value.int .u8 0, Value.int .u8 0, Value.int .u8 0, Value.int .u8 0, Value.int .u8 0, Value.int .u8 0, Value.int .u8 0, Value.int .u8 0, Value.int .u8 0, Value.int .u8 0, Value.int .u8 0, Value.int .u8 0, Value.int .u8 0, Value.int .u8 0, Value.int .u8 0, Value.int .u8 0, Value.int .u8 0, Value.int .u8 0, Value.int .u8 0, Value.int .u8 0, Value.int .u8 0, Value.int .u8 0, Value.int .u8 0, Value.int .u8 0, Value.int .u8 0, Value.int .u8 0, Value.int .u8 0] 125)) w5.heap.size _ D.toArray 125 (0, 0) (Blk.new w5 125 (List.replicate 32 (Value.int .u8 0)))
        have h7 : Blk ((w5.alloc (.cells #[Value.int .u8 0, Value.int .u8 0, Value.int .u8 0, Value.int .u8 0, Value.int .u8 0, Value.int .u8 0, Value.int .u8 0, Value.int .u8 0, Value.int .u8 0, Value.int .u8 0, Value.int .u8 0, Value.int .u8 0, Value.int .u8 0, Value.int .u8 0, Value.int .u8 0, Value.int .u8 0, Value.int .u8 0, Value.int .u8 0, Value.int .u8 0, Value.int .u8 0, Value.int .u8 0, Value.int .u8 0, Value.int .u8 0, Value.int .u8 0, Value.int .u8 0, Value.int .u8 0, Value.int .u8 0, Value.int .u8 0, Value.int .u8 0, Value.int .u8 0, Value.int .u8 0, Value.int .u8 0] 125)).setRow w5.heap.size D.toArray) (C0 + 1) 127 (u8s P1) := (setRow_other _ w5.heap.size (C0 + 1) _ (by omega)).trans (A7'.out.alloc _)
        have B6 := Lib.hid (below_setRow (B5.out.alloc B5.out.size (.cells #[Value.int .u8 0, Value.int .u8 0, Value.int .u8 0, Value.int .u8 0, Value.int .u8 0, Value.int .u8 0, Value.int .u8 0, Value.int .u8 0, Value.int .u8 0, Value.int .u8 0, Value.int .u8 0, Value.int .u8 0, Value.int .u8 0, Value.int .u8 0, Value.int .u8 0, Value.int .u8 0, Value.int .u8 0, Value.int .u8 0, Value.int .u8 0, Value.int .u8 0, Value.int .u8 0, Value.int .u8 0, Value.int .u8 0, Value.int .u8 0, Value.int .u8 0, Value.int .u8 0, Value.int .u8 0, Value.int .u8 0, Value.int .u8 0, Value.int .u8 0, Value.int .u8 0, Value.int .u8 0] 125)) B5.out.size D.toArray)
        have HD := Lib.hid hD
        have E9 := Lib.hid hB
        have E7 := Lib.hid h7
        have hs6 : w5.heap.size < ((w5.alloc (.cells #[Value.int .u8 0, Value.int .u8 0, Value.int .u8 0, Value.int .u8 0, Value.int .u8 0, Value.int .u8 0, Value.int .u8 0, Value.int .u8 0, Value.int .u8 0, Value.int .u8 0, Value.int .u8 0, Value.int .u8 0, Value.int .u8 0, Value.int .u8 0, Value.int .u8 0, Value.int .u8 0, Value.int .u8 0, Value.int .u8 0, Value.int .u8 0, Value.int .u8 0, Value.int .u8 0, Value.int .u8 0, Value.int .u8 0, Value.int .u8 0, Value.int .u8 0, Value.int .u8 0, Value.int .u8 0, Value.int .u8 0, Value.int .u8 0, Value.int .u8 0, Value.int .u8 0, Value.int .u8 0] 125)).setRow w5.heap.size D.toArray).heap.size := hB.lt
        have HST := Lib.hid hst
        clear hst hD hB h7 b5 A7 A7' B5 hcv6
        go_wp2_with (rw [HST.out])
        clear HST
        generalize (w5.alloc (.cells #[Value.int .u8 0, Value.int .u8 0, Value.int .u8 0, Value.int .u8 0, Value.int .u8 0, Value.int .u8 0, Value.int .u8 0, Value.int .u8 0, Value.int .u8 0, Value.int .u8 0, Value.int .u8 0, Value.int .u8 0, Value.int .u8 0, Value.int .u8 0, Value.int .u8 0, Value.int .u8 0, Value.int .u8 0, Value.int .u8 0, Value.int .u8 0, Value.int .u8 0, Value.int .u8 0, Value.int .u8 0, Value.int .u8 0, Value.int .u8 0, Value.int .u8 0, Value.int .u8 0, Value.int .u8 0, Value.int .u8 0, Value.int .u8 0, Value.int .u8 0, Value.int .u8 0, Value.int .u8 0] 125)).setRow w5.heap.size D.toArray = W6 at *
        have hcv9 := conv_blk2 E9.out HD.out HL3.out
        have hcv7 := conv_blk E7.out HK1.out
        have hcv9d := conv_blk2 E9.out.drew HD.out HL3.out
        have hcv7d := conv_blk E7.out.drew HK1.out
        have hsz6 := B6.out.size
        have R7 := Lib.hid (show Rd (W6.alloc (.cells #[.string (strOfNums P1), .string (strOfNums D3)] 9)).drew (W6.alloc (.cells #[.string (strOfNums P1), .string (strOfNums D3)] 9)).drew.heap.size 1 (some ⟨W6.heap.size, 0, none⟩) 2 [.string (strOfNums P1), .string (strOfNums D3)] from two_rd W6 9 _ _)
        have K7 := Lib.hid (show KT (W6.alloc (.cells #[.string (strOfNums P1), .string (strOfNums D3)] 9)).drew from fun i hi => HK.out.up (B6.out.alloc hsz6 (.cells #[.string (strOfNums P1), .string (strOfNums D3)] 9)) hz i hi)
        have B7 := Lib.hid (B6.out.alloc hsz6 (.cells #[.string (strOfNums P1), .string (strOfNums D3)] 9)).drew
        go_region_with (first
          | (go_at_call 92; refine (HC2.out _ _ R7.out K7.out (by (try simp); try omega)).mono ?_; rintro e w7 ⟨D7, rfl, rfl, b7⟩)
          | (go_at_call 91; refine (HC3.out _).mono ?_; rintro e w8 ⟨rfl, b8⟩))
        all_goals go_wp2
        all_goals go_returns
        all_goals exact ⟨rfl, below_via (below_via B7.out b7) b8⟩
end Go.Proofs.YtdbojdgppgphkaaDoor
