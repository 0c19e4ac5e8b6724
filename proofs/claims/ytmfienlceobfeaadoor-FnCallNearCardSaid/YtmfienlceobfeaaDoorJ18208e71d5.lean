/- Numbers and words as texts: the reference's side. Conditions: each contract's own. -/
import Derived.Test.YtmfienlceobfeaaDoorJ5c6c11a72b
import Derived.Laws.BytesArg
import Derived.Lib.ItoaMem
import Derived.IntWalk
namespace Go.Proofs.YtmfienlceobfeaaDoor
set_option linter.unusedSimpArgs false
open Go.RowKit
set_option linter.unusedVariables false
set_option linter.unnecessarySimpa false
set_option maxRecDepth 20000
def str (l : List UInt8) : ByteArray := ⟨l.toArray⟩
theorem str_app (a b : List UInt8) : str a ++ str b = str (a ++ b) := by
  apply ByteArray.ext
  simp [str, ByteArray.data_append]
theorem str_size (l : List UInt8) : (str l).size = l.length := by
  show (l.toArray).size = _
  simp
theorem str_one (x : Nat) (h : x < 256) : strOfNums [(x : Int)] = str [UInt8.ofNat x] := by
  apply ByteArray.ext
  simp [strOfNums, str]
def dec (n : Int) : List UInt8 := Lib.decDigits n.toNat
theorem nd_le (m : Nat) : ∀ u, u < 10 ^ (m + 1) → Lib.nDigits u ≤ m + 1 := by
  induction m with
  | zero => intro u hu; rw [Lib.nDigits_small (by simpa using hu)]; exact Nat.le_refl _
  | succ m ih =>
    intro u hu
    by_cases h : u < 10
    · rw [Lib.nDigits_small h]; omega
    · rw [Lib.nDigits_big h]
      have := ih (u / 10) (by rw [Nat.pow_succ] at hu; omega)
      omega
theorem digits_len {u : Nat} (h : u ≤ 9223372036854775807) : (Lib.decDigits u).length ≤ 20 := by
  rw [Lib.decDigits_length]
  exact nd_le 19 u (by
    have : (10 : Nat) ^ (19 + 1) = 100000000000000000000 := by decide
    omega)
theorem dec_len {n : Int} (h : n ≤ 4294967295) : (dec n).length ≤ 10 := by
  unfold dec
  rw [Lib.decDigits_length]
  exact nd_le 9 n.toNat (by
    have : (10 : Nat) ^ (9 + 1) = 10000000000 := by decide
    omega)
def wordT (v : Int) : List UInt8 := if v = 1 then [97, 108, 108, 111, 119] else if v = 2 then [100, 101, 110, 121] else if v = 3 then [110, 111, 116, 101] else if v = 4 then [115, 116, 111, 112] else []
def signT (op : Int) : List UInt8 := if op = 1 then [61] else if op = 2 then [60] else if op = 3 then [62] else []
def testT (t : Tst) : List UInt8 := [32, 97] ++ dec t.f ++ (if t.m ≠ 4294967295 then [38] ++ dec t.m else []) ++ signT t.op ++ dec t.x
def testsT (ts : List Tst) : List UInt8 := (ts.map testT).flatten
def headT (r : Rl) : List UInt8 := wordT r.v ++ [32] ++ dec r.lo ++ (if r.hi ≠ r.lo then [45] ++ dec r.hi else [])
def lineT (r : Rl) : List UInt8 := headT r ++ testsT r.ts ++ [10]
def linesT (rs : List Rl) : List UInt8 := (rs.map lineT).flatten
def textT (p : Pol) : List UInt8 := linesT p.rs ++ [101, 108, 115, 101, 32] ++ wordT p.els ++ [10]
def tstB (t : Tst) : Bool := testB t.f t.m t.op t.x
def ruleB (r : Rl) : Bool := verB' r.v && wordB r.lo && wordB r.hi && decide (r.lo ≤ r.hi) && decide (r.ts.length ≤ 4) && r.ts.all tstB
where verB' (v : Int) : Bool := decide (1 ≤ v ∧ v ≤ 4)
def polB (p : Pol) : Bool := decide (p.rs.length ≤ 8) && ruleB.verB' p.els && p.rs.all ruleB
/-- What both sides say of a policy. -/
def polOk (p : Pol) : Bool := polB p && decide ((textT p).length ≤ 900)
theorem testsT_succ {ts : List Tst} {k : Nat} {t : Tst} (h : ts[k]? = some t) : testsT (ts.take (k + 1)) = testsT (ts.take k) ++ testT t := by
  unfold testsT
  rw [List.take_add_one, h]; simp
theorem linesT_succ {rs : List Rl} {k : Nat} {r : Rl} (h : rs[k]? = some r) : linesT (rs.take (k + 1)) = linesT (rs.take k) ++ lineT r := by
  unfold linesT
  rw [List.take_add_one, h]; simp
theorem conv_one (W : World) (g : Nat) (x : Int) (hc : W.cell? ⟨g, 0, none⟩ = some (.int .u8 x)) : (convert 22 9 (.slice (some ⟨g, 0, none⟩) 1 1)).run Tryd.prog W = .ok (.string (strOfNums [x])) W :=
  run_convert_bytes_arg (P := Tryd.prog) _ 22 5 Tryd.underlying22 Tryd.underlying5 g 0 1 1 [x] rfl (fun i hi => by
    obtain rfl : i = 0 := by omega
    exact hc) 9 Tryd.underlying9
theorem dec_c (k : Nat) : ∀ (hk : k ≤ 9223372036854775807) (w : World), Calls Tryd.prog 44 #[.int .i64 (k : Int)] w (RetB (.string (str (Lib.decDigits k))) w) := by
  induction k using Nat.strongRecOn with
  | _ k ih =>
    intro hk w
    by_cases h : k < 10
    · have hc := conv_one (w.alloc (.cells #[.int .u8 (48 + (k : Int))] 5)) w.heap.size (48 + (k : Int)) ((Blk.new w 5 [.int .u8 (48 + (k : Int))]).cell (i := 0) rfl)
      rw [show strOfNums [48 + (k : Int)] = str [UInt8.ofNat (48 + k)] from by rw [show (48 + (k : Int)) = ((48 + k : Nat) : Int) from by omega, str_one (48 + k) (by omega)]] at hc
      have hd : Lib.decDigits k = [UInt8.ofNat (48 + k)] := Lib.decDigits_one h
      rw [← hd] at hc
      generalize Lib.decDigits k = D at *
      clear ih hd
      go_enter Tryd.func44, Tryd.ntmps44
      go_wp2
      go_returns
      exact ⟨rfl, by go_grown⟩
    · obtain ⟨q, hq⟩ : ∃ q, q = k / 10 := ⟨_, rfl⟩
      obtain ⟨d, hdd⟩ : ∃ d, d = k % 10 := ⟨_, rfl⟩
      have hd : Lib.decDigits k = Lib.decDigits q ++ [UInt8.ofNat (48 + d)] := by rw [hq, hdd, Lib.decDigits, dif_neg h]
      have hC := ih q (by omega) (by omega)
      have hc := fun W g => conv_one W g (48 + (d : Int))
      simp only [show (48 + (d : Int)) = ((48 + d : Nat) : Int) from by omega, str_one (48 + d) (by omega)] at hc
      simp only [show (((48 + d : Nat)) : Int) = 48 + (d : Int) from by omega] at hc
      rw [hd, ← str_app]
      have hl := digits_len (u := q) (by omega)
      have hs1 := str_size (Lib.decDigits q)
      have hs2 := str_size [UInt8.ofNat (48 + d)]
      have e10 : (k : Int).tdiv 10 = (q : Int) := by rw [Int.tdiv_eq_ediv_of_nonneg (by omega)]; omega
      have e11 : (k : Int).tmod 10 = (d : Int) := by rw [Int.tmod_eq_emod_of_nonneg (by omega)]; omega
      have w1 : IntKind.i64.wrap (q : Int) = q := IntWalk.i64_in _ (by omega)
      have w2 : IntKind.i64.wrap (d : Int) = d := IntWalk.i64_in _ (by omega)
      have w3 : IntKind.i64.wrap (48 + (d : Int)) = 48 + (d : Int) := IntWalk.i64_in _ (by omega)
      have w4 : IntKind.u8.wrap (48 + (d : Int)) = 48 + (d : Int) := by rw [IntKind.wrap_u8]; omega
      generalize str (Lib.decDigits q) = S1 at *
      generalize str [UInt8.ofNat (48 + d)] = S2 at *
      have hss : ¬ (9223372036854775807 : Nat) < S1.size + S2.size := by simp at hs2; omega
      have HC := Lib.hid hC
      have h0k : (0 : Int) ≤ (k : Int) := by omega
      have h10k : (10 : Int) ≤ (k : Int) := by omega
      clear ih hd hC hl hs1 hs2 hq hdd
      go_enter Tryd.func44, Tryd.ntmps44
      go_wp2_with fail
      go_region_law (first
        | (go_simp; (go_at_call 44; refine (HC.out _).mono ?_; rintro e w1 ⟨rfl, b1⟩; have hb1 := below_via (w := w) (by go_grown) b1; obtain ⟨gc1, gf1⟩ := below_get b1; (try simp only [heap_drew, World.size_alloc, World.size_setCell] at gc1 gf1); have hs1 := b1.size; (try simp at hs1); clear b1)))
      all_goals (go_wp2; go_returns; exact ⟨rfl, by go_grown⟩)
end Go.Proofs.YtmfienlceobfeaaDoor
