/- Drawn slots. Conditions: each contract's own. -/
import Derived.Test.YtdbojdgppgphkaaDoorDrawHash
import Derived.Test.YtdbojdgppgphkaaDoorSlot8
import Derived.Test.YtdbojdgppgphkaaDoorSlot9
namespace Go.Proofs.YtdbojdgppgphkaaDoor
set_option linter.unusedSimpArgs false
open Go.RowKit
set_option linter.unusedVariables false
set_option linter.unnecessarySimpa false
set_option maxRecDepth 20000
theorem ofN_c (g : Nat) (p : Int) (A : Option Addr) (n c : Nat) (xs : List Int) (b K m : Nat) (ss : List ByteArray) (w : World) (h : Dr w g 129 p A n c xs) (hp : p ≤ 1099511627000) (hl : ss.length = m) (h1 : 1 ≤ m) (h2 : m ≤ 1000) (hb : Blk w b 9 (strs ss)) (hg : b ≠ g) (hK : ∀ s ∈ ss, s.size ≤ K) :
    Calls Tryd.prog 50 #[.pointer (some ⟨g, 0, none⟩), .slice (some ⟨b, 0, none⟩) m m] w (RetDraw (TextIs K) g 129 p 1 A n c xs w) := by
  have HB := Lib.hid hb
  have HK := Lib.hid hK
  have D0 := Lib.hid h
  have HL := Lib.hid hl
  clear hb hK h hl
  go_enter Tryd.func50, Tryd.ntmps50
  (go_wp2_with fail); (go_at_call 51; refine (pick_c g _ _ A n c xs _ (D0.out.upto (by go_grown)) (by omega)).mono ?_; rintro e w1 ⟨_, q1, rfl, ⟨x1, rfl, l1, u1⟩, d1, e1, f1, g1⟩; have B1 := Lib.hid (HB.out.other g1 (by simp; omega)); have D1 := Lib.hid d1; have G1 := Lib.hid g1; clear d1 g1)
  have v1 := u1 (by omega)
  obtain ⟨y, hy, hm⟩ := strs_in (l := ss) l1 (by rw [HL.out]; omega)
  have cy := B1.out.cell hy
  have HM := Lib.hid (HK.out y hm)
  clear hy hm u1
  go_wp2
  go_returns
  exact ⟨_, q1, rfl, ⟨y, rfl, HM.out⟩, D1.out, by omega, by omega, G1.out⟩
theorem size_str (l : List UInt8) : (str l).size = l.length := str_size l
theorem tornB_len (t old : List UInt8) (n : Int) : (tornB t old n).length ≤ t.length + old.length := by
  unfold tornB
  split
  · omega
  · split
    · omega
    · simp; omega
theorem tornB_len2 (t old : List UInt8) (n : Int) (K : Nat) (h1 : t.length ≤ K) (h2 : old.length ≤ K) : (tornB t old n).length ≤ K := by
  unfold tornB
  split
  · omega
  · split
    · omega
    · simp; omega
theorem writeAny_c (A B S : ByteArray) (hA : A.size ≤ 1000) (hB : B.size ≤ 1000) (hS : S.size ≤ 100) (w : World) :
    Calls Tryd.prog 35 #[.agg #[.string A, .string B], .string S] w (fun e w' => ∃ A' B' : ByteArray, ∃ o : Bool, e = .returned (.tuple #[.agg #[.string A', .string B'], .bool o]) ∧ A'.size ≤ 1000 ∧ B'.size ≤ 1000 ∧ Below w.heap.size w w') := by
  have la : A.data.toList.length = A.size := rfl
  have lb : B.data.toList.length = B.size := rfl
  have ls : S.data.toList.length = S.size := rfl
  have h := specSlotsWrite_c A.data.toList B.data.toList S.data.toList (by omega) (by omega) (by omega) w
  rw [str_of A, str_of B, str_of S] at h
  refine h.mono ?_
  rintro e w' ⟨rfl, b⟩
  obtain ⟨q1, q2, q3⟩ := lastR_pos A.data.toList B.data.toList
  refine ⟨_, _, _, rfl, ?_, ?_, b⟩
  · rw [size_str]
    unfold writeR
    split
    · simp only; omega
    · have := slotW_len (n := (lastR A.data.toList B.data.toList).2.1 + 1) (by omega) S.data.toList
      split
      · simp only; omega
      · simp only; omega
  · rw [size_str]
    unfold writeR
    split
    · simp only; omega
    · have := slotW_len (n := (lastR A.data.toList B.data.toList).2.1 + 1) (by omega) S.data.toList
      split
      · simp only; omega
      · simp only; omega
theorem tornAny_c (A B S : ByteArray) (n : Int) (hA : A.size ≤ 1000) (hB : B.size ≤ 1000) (hS : S.size ≤ 100) (w : World) :
    Calls Tryd.prog 39 #[.agg #[.string A, .string B], .string S, .int .i64 n] w (fun e w' => ∃ A' B' : ByteArray, e = .returned (.agg #[.string A', .string B']) ∧ A'.size ≤ 1000 ∧ B'.size ≤ 1000 ∧ Below w.heap.size w w') := by
  have la : A.data.toList.length = A.size := rfl
  have lb : B.data.toList.length = B.size := rfl
  have ls : S.data.toList.length = S.size := rfl
  have h := specSlotsTorn_c A.data.toList B.data.toList S.data.toList n (by omega) (by omega) (by omega) w
  rw [str_of A, str_of B, str_of S] at h
  refine h.mono ?_
  rintro e w' ⟨rfl, b⟩
  obtain ⟨q1, q2, q3⟩ := lastR_pos A.data.toList B.data.toList
  refine ⟨_, _, rfl, ?_, ?_, b⟩
  · rw [size_str]
    unfold tornR
    split
    · simp only; omega
    · have := slotW_len (n := (lastR A.data.toList B.data.toList).2.1 + 1) (by omega) S.data.toList
      split
      · exact tornB_len2 _ _ _ 1000 (by omega) (by omega)
      · simp only; omega
  · rw [size_str]
    unfold tornR
    split
    · simp only; omega
    · have := slotW_len (n := (lastR A.data.toList B.data.toList).2.1 + 1) (by omega) S.data.toList
      split
      · simp only; omega
      · exact tornB_len2 _ _ _ 1000 (by omega) (by omega)
theorem slotAny_c (n : Int) (h0 : 0 ≤ n) (h1 : n ≤ 10000) (S : ByteArray) (hS : S.size ≤ 100) (w : World) :
    Calls Tryd.prog 80 #[.int .i64 n, .string S] w (fun e w' => ∃ T : ByteArray, e = .returned (.string T) ∧ T.size ≤ 1000 ∧ Below w.heap.size w w') := by
  have ls : S.data.toList.length = S.size := rfl
  have h := l8Slot_c n h0 h1 S.data.toList (by omega) w
  rw [str_of S] at h
  refine h.mono ?_
  rintro e w' ⟨rfl, b⟩
  have := slotW_len (n := n) h1 S.data.toList
  exact ⟨_, rfl, by rw [size_str]; omega, b⟩
/-- Drawn slots: texts that are not long. -/
def SlotsIs (v : Value) (_ : World) : Prop := ∃ A B : ByteArray, v = .agg #[.string A, .string B] ∧ A.size ≤ 1000 ∧ B.size ≤ 1000
def txts4 : List ByteArray := [⟨#[]⟩, ⟨#[97]⟩, ⟨#[111, 110, 101, 32, 116, 101, 120, 116]⟩, ⟨#[97, 110, 111, 116, 104, 101, 114, 32, 116, 101, 120, 116, 44, 32, 97, 32, 108, 111, 110, 103, 101, 114, 32, 111, 110, 101]⟩]
theorem txts4_size : ∀ s ∈ txts4, s.size ≤ 26 := by decide
end Go.Proofs.YtdbojdgppgphkaaDoor
