/- The contract of the reference's padding of a key; plain words on keys. Conditions: each contract's own. -/
import Derived.Test.YtdbojdgppgphkaaDoorHashSum
namespace Go.Proofs.YtdbojdgppgphkaaDoor
set_option linter.unusedSimpArgs false
open Go.RowKit
set_option linter.unusedVariables false
set_option linter.unnecessarySimpa false
theorem u8_bits (op : BinOp) (a b : Int) (h : op = .and ∨ op = .or ∨ op = .xor ∨ op = .andNot) : 0 ≤ bits op .u8 a b ∧ bits op .u8 a b ≤ 255 := by
  have key : ∀ n : Nat, 0 ≤ IntKind.u8.wrap (n : Int) ∧ IntKind.u8.wrap (n : Int) ≤ 255 := fun n => by
    rw [IntKind.wrap_u8]; omega
  rcases h with rfl | rfl | rfl | rfl
  · exact key _
  · exact key _
  · exact key _
  · exact key _
def xor8 (a b : Int) : Int := bits .xor .u8 a b
/-- The first n bytes of a key of 64 bytes, each put together with c. -/
def padTo (K : List Int) (c : Int) (n : Nat) : List Int := (List.range n).map (fun i => xor8 (K.getD i 0) c)
theorem padTo_succ (K : List Int) (c : Int) (n : Nat) : padTo K c (n + 1) = padTo K c n ++ [xor8 (K.getD n 0) c] := by simp [padTo, List.range_succ]
theorem padTo_len (K : List Int) (c : Int) (n : Nat) : (padTo K c n).length = n := by simp [padTo]
theorem padTo_byte (K : List Int) (c : Int) (n : Nat) : ∀ x ∈ padTo K c n, 0 ≤ x ∧ x ≤ 255 := by
  intro x hx
  simp only [padTo, List.mem_map] at hx
  obtain ⟨i, _, rfl⟩ := hx
  exact u8_bits .xor _ _ (by simp)
/-- A key that is too long is summed first. -/
def keyS (k : ByteArray) : ByteArray := if 64 < k.size then strOfNums (digest (bytesI k)) else k
theorem keyS_size (k : ByteArray) : (keyS k).size ≤ 64 := by
  unfold keyS
  split
  · rw [strOf_size, digest_len]; omega
  · omega
theorem bytesI_append (a b : ByteArray) : bytesI (a ++ b) = bytesI a ++ bytesI b := by
  simp [bytesI, ByteArray.data_append]
theorem getD_out {l : List Int} {k : Nat} (h : ¬ k < l.length) : l.getD k 0 = 0 := by
  simp [List.getD, List.getElem?_eq_none (show l.length ≤ k by omega)]
set_option maxHeartbeats 1600000 in
set_option maxRecDepth 100000 in
theorem pad_c (s : ByteArray) (hs : s.size ≤ 1099511627776) (c : Int) (w : World) : Calls Tryd.prog 54 #[.string s, .int .u8 c] w (RetB (.string (strOfNums (padTo (bytesI s) c 64))) w) := by
  obtain ⟨i0, hi0, hz0, hz1, hz2⟩ := info_parts info_u8z
  go_enter Tryd.func54, Tryd.ntmps54
  go_wp2
  have OE := Lib.hid (own_empty w 5 w.heap.size w.heap.size rfl (Nat.le_refl _))
  have BE := Lib.hid ((Below.refl w.heap.size w).alloc (Nat.le_refl _) (.cells #[] 5))
  go_loopg [6, 5] 64 (fun gk i v wr => ∃ (k : Nat), gk + k = 64 ∧ i = .int .i64 k ∧ Hid (wr.ownsRow w.heap.size 5 1 v k (u8s (padTo (bytesI s) c k))) ∧ Hid (Below w.heap.size w wr))
  case atStart => exact ⟨0, rfl, rfl, OE, BE⟩
  case round =>
    obtain ⟨k, hgk, rfl, HO, HBe⟩ := hrel
    have hob : ∀ b, u5.ownBlock = some b → w.heap.size ≤ b := fun b hb => (HO.out.lt b hb).1
    have HOB := Lib.hid hob
    have hbs := HBe.out.size
    clear hob
    by_cases hk : k < 64
    · obtain ⟨gk, rfl⟩ : ∃ m, gk = m + 1 := ⟨gk - 1, by omega⟩
      by_cases hks : k < s.size
      · obtain ⟨x, hx⟩ := some_at (bytesI_len s) hks
        have hix := fun W => str_at s k x hx W
        have HG := Lib.hid (getD_of hx)
        have HP := Lib.hid (padTo_succ (bytesI s) c k)
        clear hx
        go_wp2_with (at_builtin; refine wpList_append_lies _ rfl _ _ _ rfl w.heap.size 5 i0 _ 1 1 Tryd.underlying24 hi0 hz0 hz1 hz2 rfl (by omega) u5 k (u8s (padTo (bytesI s) c k)) rfl (HO.out.alloc _) ⟨wr.heap.size, 0, none⟩ 1 1 [.int .u8 (xor8 x c)] rfl rfl (one_cells _ _ _ _ rfl) (by simp [Value.oneCell']) (by omega) (by unfold maxLen; omega) (by omega) (by simp; omega) _ rfl ?_; intro gg capg w5 hown5 hgr5 hat5 hlt5)
        have O5 := Lib.hid hown5
        have B5 := Lib.hid (Below.grown (HBe.out.alloc (by omega) _) hgr5 (by simp; omega) (fun b e => by have := HOB.out _ e; omega))
        clear hown5 hgr5 hat5 hlt5
        go_wp2
        go_roundg gk
        case measure => omega
        case rel =>
          go_light
          refine ⟨k + 1, by omega, by go_num, ?_, B5⟩
          have := O5.out
          show World.ownsRow _ _ _ _ _ _ _
          rw [HP.out, HG.out]
          simpa [u8s] using this
      · have HG := Lib.hid (getD_out (l := bytesI s) (k := k) (by rw [bytesI_len]; exact hks))
        have HP := Lib.hid (padTo_succ (bytesI s) c k)
        go_wp2_with (at_builtin; refine wpList_append_lies _ rfl _ _ _ rfl w.heap.size 5 i0 _ 1 1 Tryd.underlying24 hi0 hz0 hz1 hz2 rfl (by omega) u5 k (u8s (padTo (bytesI s) c k)) rfl (HO.out.alloc _) ⟨wr.heap.size, 0, none⟩ 1 1 [.int .u8 (xor8 0 c)] rfl rfl (one_cells _ _ _ _ rfl) (by simp [Value.oneCell']) (by omega) (by unfold maxLen; omega) (by omega) (by simp; omega) _ rfl ?_; intro gg capg w5 hown5 hgr5 hat5 hlt5)
        have O5 := Lib.hid hown5
        have B5 := Lib.hid (Below.grown (HBe.out.alloc (by omega) _) hgr5 (by simp; omega) (fun b e => by have := HOB.out _ e; omega))
        clear hown5 hgr5 hat5 hlt5
        go_wp2
        go_roundg gk
        case measure => omega
        case rel =>
          go_light
          refine ⟨k + 1, by omega, by go_num, ?_, B5⟩
          have := O5.out
          show World.ownsRow _ _ _ _ _ _ _
          rw [HP.out, HG.out]
          simpa [u8s] using this
    · obtain rfl : k = 64 := by omega
      obtain ⟨gg, cap, rfl⟩ : ∃ gg cap, u5 = .slice (some ⟨gg, 0, none⟩) 64 cap := by
        rcases HO.out.2 with ⟨_, h0⟩ | ⟨gg, cap, cur, hv, _⟩
        · omega
        · exact ⟨gg, cap, hv⟩
      have hconv := conv_own HO.out
      clear HO
      go_wp2
      go_returns
      exact ⟨rfl, HBe.out⟩
set_option maxHeartbeats 1600000 in
set_option maxRecDepth 100000 in
theorem specHashMac_c (k s : ByteArray) (hk : k.size ≤ 1099511627776) (hs : s.size ≤ 1099511627000) (w : World) : Calls Tryd.prog 17 #[.string k, .string s] w (RetB (.string (strOfNums (hexL (digest (padTo (bytesI (keyS k)) 92 64 ++ digest (padTo (bytesI (keyS k)) 54 64 ++ bytesI s)))))) w) := by
  obtain ⟨KS, hKS⟩ : ∃ KS, KS = keyS k := ⟨_, rfl⟩
  have hkz := keyS_size k
  rw [← hKS] at hkz ⊢
  have HKS := Lib.hid hKS
  clear hKS
  go_enter Tryd.func17, Tryd.ntmps17
  go_upto_if 9 with (fail)
  go_cut [5, 9] from 10 to 11 (fun v5 v9 wx => v5 = .string KS ∧ Hid (Below w.heap.size w wx))
  case first =>
    by_cases hb : 64 < k.size
    · have HE : Hid (strOfNums (digest (bytesI k)) = KS) := by
        show _ = _
        rw [HKS.out, keyS, if_pos hb]
      have HC := Lib.hid (sum1_c k hk)
      rw [HE.out] at HC
      (go_wp2_with fail); (go_at_call 53; refine (HC.out _).mono ?_; rintro e w1 ⟨rfl, b1⟩; have B1 := Lib.hid b1; clear b1)
      go_wp2
      go_meet
      exact ⟨rfl, B1⟩
    · have he : k = KS := by rw [HKS.out, keyS, if_neg hb]
      subst he
      go_wp2
      go_meet
      exact ⟨rfl, Below.refl _ _⟩
  case rest =>
    obtain ⟨rfl, HB0⟩ := hcut
    have hbs := HB0.out.size
    have H1 := Lib.hid (pad_c KS (by omega) 92)
    have H2 := Lib.hid (pad_c KS (by omega) 54)
    have hp1 := padTo_len (bytesI KS) 92 64
    have hp2 := padTo_len (bytesI KS) 54 64
    have hb1 := padTo_byte (bytesI KS) 92 64
    have hb2 := padTo_byte (bytesI KS) 54 64
    generalize padTo (bytesI KS) 92 64 = P1 at *
    generalize padTo (bytesI KS) 54 64 = P2 at *
    have e2 : bytesI (strOfNums P2 ++ s) = P2 ++ bytesI s := by rw [bytesI_append, bytesI_strOfNums P2 hb2]
    have z2 : (strOfNums P2 ++ s).size ≤ 1099511627776 := by rw [ByteArray.size_append, strOf_size, hp2]; omega
    have H3 := Lib.hid (sum1_c (strOfNums P2 ++ s) z2)
    rw [e2] at H3
    have hl3 := digest_len (P2 ++ bytesI s)
    have hb3 := digest_byte (P2 ++ bytesI s)
    generalize digest (P2 ++ bytesI s) = D at *
    have e3 : bytesI (strOfNums P1 ++ strOfNums D) = P1 ++ D := by rw [bytesI_append, bytesI_strOfNums P1 hb1, bytesI_strOfNums D hb3]
    have z3 : (strOfNums P1 ++ strOfNums D).size ≤ 1099511627776 := by rw [ByteArray.size_append, strOf_size, strOf_size, hp1, hl3]; omega
    have H4 := Lib.hid (sum1_c (strOfNums P1 ++ strOfNums D) z3)
    rw [e3] at H4
    have hl4 := digest_len (P1 ++ D)
    have hb4 := digest_byte (P1 ++ D)
    generalize digest (P1 ++ D) = E at *
    have z4 := (strOf_size E).trans hl4
    have H5 := Lib.hid (hex_c (strOfNums E) (by omega) (by omega))
    rw [bytesI_strOfNums E hb4] at H5
    have y2 : ¬ 9223372036854775807 < (strOfNums P2).size + s.size := by rw [strOf_size, hp2]; omega
    have y3 : ¬ 9223372036854775807 < (strOfNums P1).size + (strOfNums D).size := by rw [strOf_size, strOf_size, hp1, hl3]; omega
    clear e2 z2 e3 z3 z4 hl3 hb3 hl4 hb4 hp1 hp2 hb1 hb2
    generalize strOfNums P1 = Q1 at *
    generalize strOfNums P2 = Q2 at *
    generalize strOfNums D = Q3 at *
    generalize strOfNums E = Q4 at *
    generalize strOfNums (hexL E) = Q5 at *
    (go_wp2_with fail); (go_at_call 54; refine (H1.out _).mono ?_; rintro e w1 ⟨rfl, b1⟩; have B1 := Lib.hid (below_via HB0.out b1); clear b1)
    (go_wp2_with fail); (go_at_call 54; refine (H2.out _).mono ?_; rintro e w2 ⟨rfl, b2⟩; have B2 := Lib.hid (below_via B1.out b2); clear b2)
    (go_wp2_with fail); (go_at_call 53; refine (H3.out _).mono ?_; rintro e w3 ⟨rfl, b3⟩; have B3 := Lib.hid (below_via B2.out b3); clear b3)
    (go_wp2_with fail); (go_at_call 53; refine (H4.out _).mono ?_; rintro e w4 ⟨rfl, b4⟩; have B4 := Lib.hid (below_via B3.out b4); clear b4)
    (go_wp2_with fail); (go_at_call 52; refine (H5.out _).mono ?_; rintro e w5 ⟨rfl, b5⟩; have B5 := Lib.hid (below_via B4.out b5); clear b5)
    go_wp2
    go_returns
    exact ⟨rfl, B5.out⟩
end Go.Proofs.YtdbojdgppgphkaaDoor
