/- Orders: both sides. Conditions: each contract's own. -/
import Derived.Test.YtflhniobbdanjaaDoorJ4696372d4b
import Derived.Test.YtflhniobbdanjaaDoorJ54ea7fd8bc
import Derived.Test.YtflhniobbdanjaaDoorJ8a22b2749d
namespace Go.Proofs.YtflhniobbdanjaaDoor
set_option linter.unusedSimpArgs false
open Go.RowKit
set_option linter.unusedVariables false
set_option linter.unnecessarySimpa false
set_option maxRecDepth 20000
/-- A number's letters. -/
def itoaB (x : Int) : ByteArray := ⟨(Lib.itoa x).toArray⟩
theorem itoaB_pos {x : Int} (h : 0 ≤ x) : itoaB x = str (Lib.decDigits x.toNat) := by
  unfold itoaB Lib.itoa str
  rw [if_neg (by omega)]
theorem itoaB_neg {x : Int} (h : x < 0) : itoaB x = ⟨#[45]⟩ ++ str (Lib.decDigits (-x).toNat) := by
  have e : (⟨#[45]⟩ : ByteArray) = str [45] := rfl
  rw [e, str_app]
  unfold itoaB Lib.itoa str
  rw [if_pos h, show x.natAbs = (-x).toNat from by omega]
  rfl
theorem add_run {P : Program} (x y : ByteArray) (h : x.size + y.size ≤ 9223372036854775807) (w : World) : (Op.stringOp .add x y).run P w = .ok (.string (x ++ y)) w :=
  run_string_add_sum (P := P) (w := w) x y h
theorem digits_len' {u : Nat} (h : u ≤ 9223372036854775808) : (Lib.decDigits u).length ≤ 20 := by
  rw [Lib.decDigits_length]
  exact nd_le 19 u (by
    have : (10 : Nat) ^ (19 + 1) = 100000000000000000000 := by decide
    omega)
theorem itoaB_size {x : Int} (h0 : -9223372036854775808 ≤ x) (h1 : x ≤ 9223372036854775807) : (itoaB x).size ≤ 30 := by
  by_cases h : 0 ≤ x
  · rw [itoaB_pos h, str_size]
    have := digits_len' (u := x.toNat) (by omega)
    omega
  · have hx : x < 0 := by omega
    rw [itoaB_neg hx, ByteArray.size_append, str_size]
    have := digits_len' (u := (-x).toNat) (by omega)
    have e : (⟨#[45]⟩ : ByteArray).size = 1 := rfl
    omega
def sumB (s : ByteArray) : ByteArray := strOfNums (hexL (digest (bytesI s)))
def macB (k s : ByteArray) : ByteArray := strOfNums (hexL (digest (padTo (bytesI (keyS k)) 92 64 ++ digest (padTo (bytesI (keyS k)) 54 64 ++ bytesI s))))
theorem sumB_size (s : ByteArray) : (sumB s).size = 64 := by
  unfold sumB
  rw [strOf_size, hex_len, digest_len]
theorem macB_size (k s : ByteArray) : (macB k s).size = 64 := by
  unfold macB
  rw [strOf_size, hex_len, digest_len]
/-- An order without its tag. -/
def headB (n : Int) (pack : ByteArray) : ByteArray := ((⟨#[111, 114, 100, 101, 114, 32]⟩ ++ itoaB n) ++ ⟨#[32]⟩) ++ sumB pack
def orderB (key : ByteArray) (n : Int) (pack : ByteArray) : ByteArray := (headB n pack ++ ⟨#[32]⟩) ++ macB key (headB n pack)
theorem itoaAll_c (x : Int) (h0 : -9223372036854775808 ≤ x) (h1 : x ≤ 9223372036854775807) (w : World) (B : Nat) (hp : PT w B) : Calls Tryd.prog 73 #[.int .i64 x] w (RetB (.string (itoaB x)) w) := by
  obtain ⟨g, _, _, ht⟩ := hp
  refine (Tryd.strconv_Itoa x h0 h1 w ht).mono fun e w' h => ?_
  obtain ⟨rfl, k, os, rfl⟩ := h
  exact ⟨rfl, Lib.below_grow _ w (Nat.le_refl _) k os⟩
theorem decAll_c (x : Int) (h0 : -9223372036854775808 ≤ x) (h1 : x ≤ 9223372036854775807) (w : World) : Calls Tryd.prog 61 #[.int .i64 x] w (RetB (.string (itoaB x)) w) := by
  by_cases hp : 0 ≤ x
  · rw [itoaB_pos hp]
    have := dec_c x.toNat (by omega) w
    rwa [show ((x.toNat : Nat) : Int) = x from by omega] at this
  · by_cases hm : x = -9223372036854775808
    · subst hm
      have e : itoaB (-9223372036854775808) = ⟨#[45, 57, 50, 50, 51, 51, 55, 50, 48, 51, 54, 56, 53, 52, 55, 55, 53, 56, 48, 56]⟩ := by decide +kernel
      rw [e]
      go_enter Tryd.func61, Tryd.ntmps61
      go_wp2
      go_returns
      exact ⟨rfl, by go_grown⟩
    · have hC := dec_c (-x).toNat (by omega)
      have e1 : (((-x).toNat : Nat) : Int) = -x := by omega
      rw [e1] at hC
      rw [itoaB_neg (by omega)]
      have hl := digits_len (u := (-x).toNat) (by omega)
      have hsz := str_size (Lib.decDigits (-x).toNat)
      have ha : ∀ W, (Op.stringOp .add ⟨#[45]⟩ (str (Lib.decDigits (-x).toNat))).run Tryd.prog W = .ok (.string (⟨#[45]⟩ ++ str (Lib.decDigits (-x).toNat))) W := fun W => add_run _ _ (by
        have e : (⟨#[45]⟩ : ByteArray).size = 1 := rfl
        omega) W
      have HC := Lib.hid hC
      generalize ⟨#[45]⟩ ++ str (Lib.decDigits (-x).toNat) = S at *
      generalize str (Lib.decDigits (-x).toNat) = D at *
      have q1 : IntKind.i64.wrap (-x) = -x := IntWalk.i64_in _ (by omega)
      have q2 : IntKind.i64.wrap (0 - x) = -x := by rw [show 0 - x = -x from by omega]; exact q1
      have hx0 : x < 0 := by omega
      have hx1 : ¬ x < -9223372036854775807 := by omega
      clear hC hl hsz hp hm e1
      go_enter Tryd.func61, Tryd.ntmps61
      go_wp2_with (go_at_call 61; refine (HC.out _).mono ?_; rintro e w1 ⟨rfl, b1⟩; obtain ⟨gc1, gf1⟩ := below_get b1; (try simp only [heap_drew, World.size_alloc, World.size_setCell] at gc1 gf1); have s1 := below_via (w := w) (by go_grown) b1; have H1 := s1; have hs1 := b1.size; (try simp at hs1); clear b1)
      go_returns
      exact ⟨rfl, by go_grown⟩
end Go.Proofs.YtflhniobbdanjaaDoor
