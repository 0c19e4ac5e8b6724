/- A word's bits outside a mask do not matter: plain laws of bits. No condition but the words' bounds. -/
import Derived.Test.YtbijlencoilchaaTest
namespace Go.Proofs.Ytbijlencoilchaa
open Go.RowKit
theorem i64_or_nat (a b : Nat) (ha : a < 9223372036854775808) (hb : b < 9223372036854775808) : bits .or .i64 (a : Int) (b : Int) = ((a ||| b : Nat) : Int) := by
  have hx : a ||| b < 2 ^ 63 := Nat.or_lt_two_pow (by omega) (by omega)
  show IntKind.i64.wrap ((BitVec.ofInt 64 (a : Int) ||| BitVec.ofInt 64 (b : Int)).toNat : Int) = _
  rw [BitVec.toNat_or, ofInt_i64 a ha, ofInt_i64 b hb, IntKind.wrap_i64]
  omega
theorem mask_nat (a k mm : Nat) (hm : mm ≤ 4294967295) : ((a &&& mm) ||| (k &&& (4294967295 - mm))) &&& mm = a &&& mm := by
  apply Nat.eq_of_testBit_eq
  intro i
  have h := Nat.testBit_two_pow_sub_succ (n := 32) (x := mm) (by omega) i
  have e : 4294967295 - mm = 2 ^ 32 - (mm + 1) := by omega
  rw [e]
  simp only [Nat.testBit_and, Nat.testBit_or, h]
  cases a.testBit i <;> cases mm.testBit i <;> simp
theorem mask_word (a k mm : Nat) (ha : a ≤ 4294967295) (hm : mm ≤ 4294967295) : ((a &&& mm) ||| (k &&& (4294967295 - mm))) ≤ 4294967295 := by
  have h1 : a &&& mm < 2 ^ 32 := Nat.and_lt_two_pow _ (by omega)
  have h2 : k &&& (4294967295 - mm) < 2 ^ 32 := Nat.and_lt_two_pow _ (by omega)
  have := Nat.or_lt_two_pow h1 h2
  omega
theorem mask_i64 (a mm : Int) (k : Nat) (hk : k < 9223372036854775808) (h0 : 0 ≤ a) (ha : a ≤ 4294967295) (h1 : 0 ≤ mm) (hm : mm ≤ 4294967295) :
    wordB (bits .or .i64 (bits .and .i64 a mm) (bits .and .i64 (k : Int) (4294967295 - mm))) = true ∧
    bits .and .i64 (bits .or .i64 (bits .and .i64 a mm) (bits .and .i64 (k : Int) (4294967295 - mm))) mm = bits .and .i64 a mm := by
  obtain ⟨a, rfl⟩ := Int.eq_ofNat_of_zero_le h0
  obtain ⟨mm, rfl⟩ := Int.eq_ofNat_of_zero_le h1
  have e : (4294967295 - (mm : Int)) = ((4294967295 - mm : Nat) : Int) := by omega
  have l1 : a &&& mm < 2 ^ 32 := Nat.and_lt_two_pow _ (by omega)
  have l2 : k &&& (4294967295 - mm) < 2 ^ 32 := Nat.and_lt_two_pow _ (by omega)
  have l3 := mask_word a k mm (by omega) (by omega)
  rw [e, i64_and_nat a mm (by omega) (by omega), i64_and_nat k _ hk (by omega), i64_or_nat _ _ (by omega) (by omega), i64_and_nat _ _ (by omega) (by omega), mask_nat a k mm (by omega)]
  refine ⟨?_, rfl⟩
  unfold wordB
  simp only [decide_eq_true_eq]
  omega
theorem holds_masked {f mm op x num num' V x0 : Int} {zs ys : List Int} (h1 : 1 ≤ f) (h4 : f ≤ 4) (hc : callB num zs = true) (hn : wordB num' = true) (hl : ys.length = 4) (hw : ∀ y ∈ ys, wordB y = true) (hV : wordB V = true)
    (hx0 : zs[f.toNat - 1]? = some x0) (hM : bits .and .i64 V mm = bits .and .i64 x0 mm) : testHoldsB f mm op x num' (ys.set (f.toNat - 1) V) = testHoldsB f mm op x num zs := by
  have e1 : (f - 1).toNat = f.toNat - 1 := by omega
  have e0 : ¬ f = 0 := by omega
  have c' : callB num' (ys.set (f.toNat - 1) V) = true := by
    unfold callB
    simp only [hn, List.length_set, hl, Bool.true_and, beq_self_eq_true]
    refine List.all_eq_true.2 fun y hy => ?_
    rcases List.mem_or_eq_of_mem_set hy with h | rfl
    · exact hw y h
    · exact hV
  have v' : fieldV num' (ys.set (f.toNat - 1) V) f = V := by
    unfold fieldV
    rw [if_neg e0, e1, List.getD_eq_getElem?_getD, List.getElem?_set_self (by omega)]
    rfl
  have v : fieldV num zs f = x0 := by
    unfold fieldV
    rw [if_neg e0, e1, List.getD_eq_getElem?_getD, hx0]
    rfl
  unfold testHoldsB fitsB
  rw [c', hc, v', v, hM]
end Go.Proofs.Ytbijlencoilchaa
