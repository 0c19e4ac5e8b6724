/- How the specification cuts a text at a byte. Conditions: each contract's own. -/
import Derived.Test.YtflhniobbdanjaaDoorJb0f480fe49
import Derived.Test.YtflhniobbdanjaaDoorJf48e40b4e1
namespace Go.Proofs.YtflhniobbdanjaaDoor
set_option linter.unusedSimpArgs false
open Go.RowKit
set_option linter.unusedVariables false
set_option linter.unnecessarySimpa false
set_option maxRecDepth 20000
/-- The pieces ahead of place i, and where the next one begins. -/
def cutP (s : ByteArray) (c : UInt8) : Nat → List ByteArray × Nat
  | 0 => ([], 0)
  | i + 1 => if s.data.toList[i]? = some c then ((cutP s c i).1 ++ [s.extract (cutP s c i).2 i], i + 1) else cutP s c i
def cutL (s : ByteArray) (c : UInt8) : List ByteArray := (cutP s c s.size).1 ++ [s.extract (cutP s c s.size).2 s.size]
def strsC (l : List ByteArray) : List Value := l.map Value.string
theorem cutP_succ (s : ByteArray) (c : UInt8) (i : Nat) : cutP s c (i + 1) = if s.data.toList[i]? = some c then ((cutP s c i).1 ++ [s.extract (cutP s c i).2 i], i + 1) else cutP s c i := rfl
theorem cutP_from (s : ByteArray) (c : UInt8) (i : Nat) : (cutP s c i).2 ≤ i := by
  induction i with
  | zero => exact Nat.le_refl _
  | succ i ih =>
    rw [cutP_succ]
    split
    · exact Nat.le_refl _
    · omega
theorem cutP_len (s : ByteArray) (c : UInt8) (i : Nat) (h : i ≤ s.size) : (cutP s c i).1.length = Lib.countByte (s.data.toList.take i) c := by
  induction i with
  | zero => simp [cutP, Lib.countByte]
  | succ i ih =>
    have hl : s.data.toList.length = s.size := by simp
    have hi := ih (by omega)
    have hg : s.data.toList[i]? = some (s.data.toList[i]'(by omega)) := List.getElem?_eq_getElem _
    unfold Lib.countByte at hi ⊢
    rw [List.take_add_one, List.count_append, ← hi, hg]
    rw [cutP_succ, hg]
    by_cases hc : s.data.toList[i]'(by omega) = c
    · rw [if_pos (by rw [hc]), hc]
      simp
    · rw [if_neg (by simpa using hc)]
      simp only [Option.toList]
      rw [List.count_cons_of_ne hc, List.count_nil, Nat.add_zero]
theorem cutP_short (s : ByteArray) (c : UInt8) (i : Nat) : (cutP s c i).1.length ≤ i := by
  induction i with
  | zero => exact Nat.le_refl _
  | succ i ih =>
    rw [cutP_succ]
    split
    · simp; omega
    · omega
theorem cutL_len (s : ByteArray) (c : UInt8) : (cutL s c).length = Lib.countByte s.data.toList c + 1 := by
  unfold cutL
  rw [List.length_append, cutP_len s c s.size (Nat.le_refl _), List.take_of_length_le (by simp)]
  rfl
theorem info_string : (Tryd.prog.info? 9).map (fun i => (i.zero, i.size, i.bytes)) = some (some (.string ⟨#[]⟩), 1, 16) := by kernel_rfl
theorem rd_newC {w : World} {g : Nat} (hg : w.heap.size = g) (t size n : Nat) (cs : List Value) (h : cs.length = n * size) : Rd (w.alloc (.cells cs.toArray t)) (g + 1) size (some ⟨g, 0, none⟩) n cs := by
  subst hg
  exact ⟨h, fun _ => ⟨w.heap.size, 0, rfl, Nat.lt_succ_self _, fun j u hu => by rw [Nat.zero_add]; exact (Blk.new w t cs).cell hu⟩⟩
theorem one_str (s : ByteArray) : ∀ u ∈ ([.string s] : List Value), u.oneCell' = true := by
  intro u hu
  rw [List.mem_singleton.1 hu]
  rfl
theorem strsC_add (l : List ByteArray) (s : ByteArray) : strsC (l ++ [s]) = strsC l ++ [.string s] := by simp [strsC]
theorem own_new1 (w : World) (e B : Nat) (hB : B ≤ w.heap.size) : (w.alloc (.cells #[] e)).ownsRow B e 1 (.slice (some ⟨w.heap.size, 0, none⟩) 0 0) 0 [] :=
  ⟨rfl, .inr ⟨w.heap.size, 0, #[], rfl, hB, heap_alloc_new w _, by omega, by unfold maxLen; omega, rfl, rfl⟩⟩
set_option maxHeartbeats 4000000 in
set_option maxRecDepth 100000 in
theorem l2Cut_c (s : ByteArray) (c : UInt8) (hs : s.size ≤ 1099511627776) (w : World) : Calls Tryd.prog 17 #[.string s, .int .u8 c.toNat] w (RetOwn 9 1 (cutL s c).length (strsC (cutL s c)) w) := by
  obtain ⟨i0, hi0, hz0, hz1, hz2⟩ := info_parts info_string
  have E0 := Lib.hid (own_new1 w 9 w.heap.size (Nat.le_refl _))
  have HAT : Hid (∀ k (h1 : k < s.size), s.data.toList[k]? = some (s[k]'h1)) := Lib.hid (fun k h1 => by
    rw [List.getElem?_eq_getElem (by simpa using h1)]
    simp [ByteArray.getElem_eq_getElem_data])
  go_enter Tryd.func17, Tryd.ntmps17
  go_wp2_with fail
  go_loopg [5, 6, 7] s.size (fun gk v f i wr => ∃ (k : Nat) (A : Option Addr) (cc : Nat), gk + k = s.size ∧ i = .int .i64 k ∧ f = .int .i64 (cutP s c k).2 ∧ v = .slice A (cutP s c k).1.length cc ∧
      Hid (wr.ownsRow w.heap.size 9 1 (.slice A (cutP s c k).1.length cc) (cutP s c k).1.length (strsC (cutP s c k).1)) ∧ Hid (Below w.heap.size w wr))
  case atStart => exact ⟨0, _, _, by omega, rfl, rfl, rfl, E0, Lib.hid (by go_grown)⟩
  case round =>
    obtain ⟨k, A, cc, hgk, rfl, rfl, rfl, HO, HB⟩ := hrel
    have hbs := HB.out.size
    have hfr := cutP_from s c k
    have hsh := cutP_short s c k
    have hob : ∀ b, (Value.slice A (cutP s c k).1.length cc).ownBlock = some b → w.heap.size ≤ b := fun b hb => (HO.out.lt b hb).1
    have HOB := Lib.hid hob
    clear hob
    obtain ⟨zs, hzs⟩ : ∃ x, (cutP s c k).1 = x := ⟨_, rfl⟩
    obtain ⟨fr, hfe⟩ : ∃ x, (cutP s c k).2 = x := ⟨_, rfl⟩
    have HZ := Lib.hid hzs
    have HF := Lib.hid hfe
    rw [hzs] at HO HOB hsh ⊢
    rw [hfe] at hfr ⊢
    clear hzs hfe
    have HOW := Lib.hid (own_up HO.out (w' := wr.alloc (.cells #[.string (s.extract fr k)] 9)) (by go_grown))
    have HCC : Hid (Rd (wr.alloc (.cells #[.string (s.extract fr k)] 9)) (wr.heap.size + 1) 1 (some ⟨wr.heap.size, 0, none⟩) 1 [.string (s.extract fr k)]) := Lib.hid (rd_newC (w := wr) rfl 9 1 1 [.string (s.extract fr k)] rfl)
    by_cases hk : gk = 0
    · subst hk
      obtain rfl : k = s.size := by omega
      have HL : Hid (cutL s c = zs ++ [s.extract fr s.size]) := Lib.hid (by unfold cutL; rw [HZ.out, HF.out])
      go_wp2_with (at_builtin; go_must (refine wpList_append_rd _ rfl _ _ 36 rfl w.heap.size 9 i0 _ 1 16 Tryd.underlying36 hi0 hz0 hz1 hz2 rfl (by omega) (.slice A zs.length cc) zs.length (strsC zs) rfl HOW.out _ (some ⟨wr.heap.size, 0, none⟩) 1 1 _ rfl HCC.out (one_str _) (by unfold maxLen; omega) (by omega) (by simp; omega) ?_; intro A5 c5 w5 ho5 hg5 ha5; have hs5 := hg5.size; (try simp at hs5); have O5 := Lib.hid ho5; have L5 := Lib.hid ((show Below w.heap.size w _ from below_via HB.out (by go_grown)).grown hg5 (by (try simp); omega) (fun b e => by have := HOB.out b e; omega)); clear ho5 hg5 ha5))
      go_returns
      have e1 : (cutL s c).length = zs.length + 1 := by rw [HL.out]; simp
      have := O5.out
      rw [← strsC_add, ← HL.out] at this
      rw [e1]
      exact ⟨A5, c5, rfl, this, L5.out⟩
    · obtain ⟨gk, rfl⟩ : ∃ m, gk = m + 1 := ⟨gk - 1, by omega⟩
      have hlt : k < s.size := by omega
      have hat := HAT.out k hlt
      by_cases hc : s[k]'hlt = c
      · have hcb : ((((s[k]'hlt).toNat : Nat) : Int) == ((c.toNat : Nat) : Int)) = true := by rw [hc]; simp
        have HN : Hid ((cutP s c (k + 1)).1 = zs ++ [s.extract fr k] ∧ (cutP s c (k + 1)).2 = k + 1) := Lib.hid (by
          have : cutP s c (k + 1) = (zs ++ [s.extract fr k], k + 1) := by
            rw [cutP_succ, if_pos (by rw [hat, hc]), HZ.out, HF.out]
          rw [this]
          exact ⟨rfl, rfl⟩)
        clear hc hat
        go_wp2_with (at_builtin; go_must (refine wpList_append_rd _ rfl _ _ 36 rfl w.heap.size 9 i0 _ 1 16 Tryd.underlying36 hi0 hz0 hz1 hz2 rfl (by omega) (.slice A zs.length cc) zs.length (strsC zs) rfl HOW.out _ (some ⟨wr.heap.size, 0, none⟩) 1 1 _ rfl HCC.out (one_str _) (by unfold maxLen; omega) (by omega) (by simp; omega) ?_; intro A5 c5 w5 ho5 hg5 ha5; have hs5 := hg5.size; (try simp at hs5); have O5 := Lib.hid ho5; have L5 := Lib.hid ((show Below w.heap.size w _ from below_via HB.out (by go_grown)).grown hg5 (by (try simp); omega) (fun b e => by have := HOB.out b e; omega)); clear ho5 hg5 ha5))
        go_roundg gk
        case measure => omega
        case rel =>
          go_light
          obtain ⟨n1, n2⟩ := HN.out
          refine ⟨k + 1, A5, c5, by omega, by go_num, by rw [n2]; go_num, by rw [n1]; simp, ?_, L5⟩
          have := O5.out
          rw [← strsC_add, ← n1] at this
          rw [show (cutP s c (k + 1)).1.length = zs.length + 1 by rw [n1]; simp]
          exact Lib.hid this
      · have hcb : ((((s[k]'hlt).toNat : Nat) : Int) == ((c.toNat : Nat) : Int)) = false := by
          rw [beq_eq_false_iff_ne]
          intro e
          exact hc (UInt8.toNat_inj.1 (by omega))
        have HN : Hid (cutP s c (k + 1) = cutP s c k) := Lib.hid (by
          rw [cutP_succ, if_neg (by rw [hat]; simpa using hc)])
        clear hc hat
        go_wp2
        go_roundg gk
        case measure => omega
        case rel =>
          go_light
          refine ⟨k + 1, A, cc, by omega, by go_num, by rw [HN.out, HF.out], by rw [HN.out, HZ.out], ?_, HB⟩
          rw [HN.out, HZ.out]
          exact HO
end Go.Proofs.YtflhniobbdanjaaDoor
