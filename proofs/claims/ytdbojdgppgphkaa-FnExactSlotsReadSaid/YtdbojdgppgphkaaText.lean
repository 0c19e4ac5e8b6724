/- Numbers and words as texts: the reference's side. Conditions: each contract's own. -/
import Derived.Test.YtdbojdgppgphkaaPol
import Derived.Laws.BytesArg
import Derived.Lib.ItoaMem
import Derived.IntWalk
namespace Go.Proofs.Ytdbojdgppgphkaa
set_option linter.unusedSimpArgs false
open Go.RowKit
set_option linter.unusedVariables false
set_option linter.unnecessarySimpa false
set_option maxRecDepth 20000
def str (l : List UInt8) : ByteArray := ⟨l.toArray⟩
theorem str_app (a b : List UInt8) : str a ++ str b = str (a ++ b) := by
  apply ByteArray.ext
  simp [str, ByteArray.data_append]
theorem str_size (l : List UInt8) : (str l).size = l.length := by
  show (l.toArray).size = _
  simp
theorem str_one (x : Nat) (h : x < 256) : strOfNums [(x : Int)] = str [UInt8.ofNat x] := by
  apply ByteArray.ext
  simp [strOfNums, str]
def dec (n : Int) : List UInt8 := Lib.decDigits n.toNat
theorem nd_le (m : Nat) : ∀ u, u < 10 ^ (m + 1) → Lib.nDigits u ≤ m + 1 := by
  induction m with
  | zero => intro u hu; rw [Lib.nDigits_small (by simpa using hu)]; exact Nat.le_refl _
  | succ m ih =>
    intro u hu
    by_cases h : u < 10
    · rw [Lib.nDigits_small h]; omega
    · rw [Lib.nDigits_big h]
      have := ih (u / 10) (by rw [Nat.pow_succ] at hu; omega)
      omega
theorem digits_len {u : Nat} (h : u ≤ 9223372036854775807) : (Lib.decDigits u).length ≤ 20 := by
  rw [Lib.decDigits_length]
  exact nd_le 19 u (by
    have : (10 : Nat) ^ (19 + 1) = 100000000000000000000 := by decide
    omega)
theorem dec_len {n : Int} (h : n ≤ 4294967295) : (dec n).length ≤ 10 := by
  unfold dec
  rw [Lib.decDigits_length]
  exact nd_le 9 n.toNat (by
    have : (10 : Nat) ^ (9 + 1) = 10000000000 := by decide
    omega)
def wordT (v : Int) : List UInt8 := if v = 1 then [97, 108, 108, 111, 119] else if v = 2 then [100, 101, 110, 121] else if v = 3 then [110, 111, 116, 101] else if v = 4 then [115, 116, 111, 112] else []
def signT (op : Int) : List UInt8 := if op = 1 then [61] else if op = 2 then [60] else if op = 3 then [62] else []
def testT (t : Tst) : List UInt8 := [32, 97] ++ dec t.f ++ (if t.m ≠ 4294967295 then [38] ++ dec t.m else []) ++ signT t.op ++ dec t.x
def testsT (ts : List Tst) : List UInt8 := (ts.map testT).flatten
def headT (r : Rl) : List UInt8 := wordT r.v ++ [32] ++ dec r.lo ++ (if r.hi ≠ r.lo then [45] ++ dec r.hi else [])
def lineT (r : Rl) : List UInt8 := headT r ++ testsT r.ts ++ [10]
def linesT (rs : List Rl) : List UInt8 := (rs.map lineT).flatten
def textT (p : Pol) : List UInt8 := linesT p.rs ++ [101, 108, 115, 101, 32] ++ wordT p.els ++ [10]
def tstB (t : Tst) : Bool := testB t.f t.m t.op t.x
def ruleB (r : Rl) : Bool := verB' r.v && wordB r.lo && wordB r.hi && decide (r.lo ≤ r.hi) && decide (r.ts.length ≤ 4) && r.ts.all tstB
where verB' (v : Int) : Bool := decide (1 ≤ v ∧ v ≤ 4)
def polB (p : Pol) : Bool := decide (p.rs.length ≤ 8) && ruleB.verB' p.els && p.rs.all ruleB
/-- What both sides say of a policy. -/
def polOk (p : Pol) : Bool := polB p && decide ((textT p).length ≤ 900)
theorem testsT_succ {ts : List Tst} {k : Nat} {t : Tst} (h : ts[k]? = some t) : testsT (ts.take (k + 1)) = testsT (ts.take k) ++ testT t := by
  unfold testsT
  rw [List.take_add_one, h]; simp
theorem linesT_succ {rs : List Rl} {k : Nat} {r : Rl} (h : rs[k]? = some r) : linesT (rs.take (k + 1)) = linesT (rs.take k) ++ lineT r := by
  unfold linesT
  rw [List.take_add_one, h]; simp
