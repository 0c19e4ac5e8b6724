/- The contracts of the sum of a text in figures, both sides. Conditions: each contract's own. -/
import Derived.Test.YtdbojdgppgphkaaDoorSumOf
namespace Go.Proofs.YtdbojdgppgphkaaDoor
set_option linter.unusedSimpArgs false
open Go.RowKit
set_option linter.unusedVariables false
set_option linter.unnecessarySimpa false
theorem cat_one (s : ByteArray) : catB [s] = bytesI s := by simp [catB]
theorem strOf_size (l : List Int) : (strOfNums l).size = l.length := by
  rw [Lib.size_eq]; simp [strOfNums]
set_option maxRecDepth 100000 in
theorem specHashSum_c (s : ByteArray) (hs : s.size ≤ 1099511627776) (w : World) : Calls Tryd.prog 16 #[.string s] w (RetB (.string (strOfNums (hexL (digest (bytesI s))))) w) := by
  have hd := digest_byte (bytesI s)
  have hl := digest_len (bytesI s)
  have HC := Lib.hid (sum1_c s hs)
  generalize digest (bytesI s) = D at *
  have HB := Lib.hid (bytesI_strOfNums D hd)
  have HZ := Lib.hid ((strOf_size D).trans hl)
  clear hd hl
  generalize hX : strOfNums D = X at *
  clear hX
  rw [← HB.out]
  go_enter Tryd.func16, Tryd.ntmps16
  (go_wp2_with fail); (go_at_call 53; refine (HC.out _).mono ?_; rintro e w1 ⟨rfl, b1⟩; obtain ⟨gc1, gf1⟩ := below_get b1; (try simp only [heap_drew, World.size_alloc, World.size_setCell] at gc1 gf1); have s1 := below_via (w := w) (by go_grown) b1; have H1 := s1; have hs1 := b1.size; (try simp at hs1); clear b1)
  (go_wp2_with fail); (go_at_call 52; refine (hex_c X (by rw [HZ.out]; omega) (by rw [HZ.out]; omega) _).mono ?_; rintro e w2 ⟨rfl, b2⟩; obtain ⟨gc2, gf2⟩ := below_get b2; (try simp only [heap_drew, World.size_alloc, World.size_setCell] at gc2 gf2); have s2 := below_via (w := w1) (by go_grown) b2; have H2 := below_via H1 s2; have hs2 := b2.size; (try simp at hs2); clear b2)
  go_wp2
  go_returns
  exact ⟨rfl, by go_grown⟩
set_option maxRecDepth 100000 in
theorem hashSum_c (s : ByteArray) (hs : s.size ≤ 1099511627776) (w : World) (hK : KT w) (hz : 2 < w.heap.size) : Calls Tryd.prog 47 #[.string s] w (RetB (.string (strOfNums (hexL (digest (bytesI s))))) w) := by
  have HK := Lib.hid hK
  have HD := Lib.hid (show digest (catB [s]) = digest (bytesI s) by rw [cat_one])
  have hC := fun (A : Option Addr) (w : World) (hr : Rd w w.heap.size 1 A 1 (strs [s])) (hK : KT w) (hz : 2 < w.heap.size) => hashOf_c A 1 1 [s] w hr (by rw [cat_one, bytesI_len]; omega) hK hz (by omega)
  rw [HD.out] at hC
  have HC := Lib.hid hC
  have hl := digest_len (bytesI s)
  have hd := digest_byte (bytesI s)
  clear hC HD hK
  generalize digest (bytesI s) = D at *
  have HL := Lib.hid hl
  have HB := Lib.hid hd
  clear hl hd
  go_enter Tryd.func47, Tryd.ntmps47
  go_wp2_with fail
  refine (HC.out _ _ (Rd.of_own (own_of_blk (Blk.new w 9 [.string s]) (Nat.le_refl _) rfl (by unfold maxLen; omega))) (HK.out.up (Below.alloc (Below.refl _ _) (Nat.le_refl _) _) hz) (by (try simp); try omega)).mono ?_
  rintro e w1 ⟨rfl, b1⟩
  obtain ⟨gc1, gf1⟩ := below_get b1; (try simp only [heap_drew, World.size_alloc, World.size_setCell] at gc1 gf1); have s1 := below_via (w := w) (by go_grown) b1; have H1 := s1; have hs1 := b1.size; (try simp at hs1); clear b1
  (go_wp2_with fail); (go_at_call 91; refine (hashFigures_c D HL.out HB.out _).mono ?_; rintro e w2 ⟨rfl, b2⟩; obtain ⟨gc2, gf2⟩ := below_get b2; (try simp only [heap_drew, World.size_alloc, World.size_setCell] at gc2 gf2); have s2 := below_via (w := w1) (by go_grown) b2; have H2 := below_via H1 s2; have hs2 := b2.size; (try simp at hs2); clear b2)
  go_wp2
  go_returns
  exact ⟨rfl, by go_grown⟩
end Go.Proofs.YtdbojdgppgphkaaDoor
