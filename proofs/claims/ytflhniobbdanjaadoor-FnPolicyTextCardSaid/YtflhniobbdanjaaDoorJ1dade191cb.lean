/- Parts of laws in one text. Conditions: each lemma's own. -/
import Derived.Test.YtflhniobbdanjaaDoorJ559e663008
import Derived.Laws.BytesArg
import Derived.Lib.ItoaMem
import Derived.IntWalk
import Derived.Test.YtflhniobbdanjaaDoorCall
import Derived.Deep.LoopGhost
namespace Go.Proofs.YtflhniobbdanjaaDoor
set_option linter.unusedSimpArgs false
open Go.RowKit
set_option linter.unusedVariables false
set_option linter.unnecessarySimpa false
set_option maxRecDepth 20000
def str (l : List UInt8) : ByteArray := ⟨l.toArray⟩
theorem str_app (a b : List UInt8) : str a ++ str b = str (a ++ b) := by
  apply ByteArray.ext
  simp [str, ByteArray.data_append]
theorem str_size (l : List UInt8) : (str l).size = l.length := by
  show (l.toArray).size = _
  simp
theorem str_one (x : Nat) (h : x < 256) : strOfNums [(x : Int)] = str [UInt8.ofNat x] := by
  apply ByteArray.ext
  simp [strOfNums, str]
def dec (n : Int) : List UInt8 := Lib.decDigits n.toNat
theorem nd_le (m : Nat) : ∀ u, u < 10 ^ (m + 1) → Lib.nDigits u ≤ m + 1 := by
  induction m with
  | zero => intro u hu; rw [Lib.nDigits_small (by simpa using hu)]; exact Nat.le_refl _
  | succ m ih =>
    intro u hu
    by_cases h : u < 10
    · rw [Lib.nDigits_small h]; omega
    · rw [Lib.nDigits_big h]
      have := ih (u / 10) (by rw [Nat.pow_succ] at hu; omega)
      omega
theorem digits_len {u : Nat} (h : u ≤ 9223372036854775807) : (Lib.decDigits u).length ≤ 20 := by
  rw [Lib.decDigits_length]
  exact nd_le 19 u (by
    have : (10 : Nat) ^ (19 + 1) = 100000000000000000000 := by decide
    omega)
theorem dec_len {n : Int} (h : n ≤ 4294967295) : (dec n).length ≤ 10 := by
  unfold dec
  rw [Lib.decDigits_length]
  exact nd_le 9 n.toNat (by
    have : (10 : Nat) ^ (9 + 1) = 10000000000 := by decide
    omega)
def wordT (v : Int) : List UInt8 := if v = 1 then [97, 108, 108, 111, 119] else if v = 2 then [100, 101, 110, 121] else if v = 3 then [110, 111, 116, 101] else if v = 4 then [115, 116, 111, 112] else []
def signT (op : Int) : List UInt8 := if op = 1 then [61] else if op = 2 then [60] else if op = 3 then [62] else []
def testT (t : Tst) : List UInt8 := [32, 97] ++ dec t.f ++ (if t.m ≠ 4294967295 then [38] ++ dec t.m else []) ++ signT t.op ++ dec t.x
def testsT (ts : List Tst) : List UInt8 := (ts.map testT).flatten
def headT (r : Rl) : List UInt8 := wordT r.v ++ [32] ++ dec r.lo ++ (if r.hi ≠ r.lo then [45] ++ dec r.hi else [])
def lineT (r : Rl) : List UInt8 := headT r ++ testsT r.ts ++ [10]
def linesT (rs : List Rl) : List UInt8 := (rs.map lineT).flatten
def textT (p : Pol) : List UInt8 := linesT p.rs ++ [101, 108, 115, 101, 32] ++ wordT p.els ++ [10]
def tstB (t : Tst) : Bool := testB t.f t.m t.op t.x
def ruleB (r : Rl) : Bool := verB' r.v && wordB r.lo && wordB r.hi && decide (r.lo ≤ r.hi) && decide (r.ts.length ≤ 4) && r.ts.all tstB
where verB' (v : Int) : Bool := decide (1 ≤ v ∧ v ≤ 4)
def polB (p : Pol) : Bool := decide (p.rs.length ≤ 8) && ruleB.verB' p.els && p.rs.all ruleB
/-- What both sides say of a policy. -/
def polOk (p : Pol) : Bool := polB p && decide ((textT p).length ≤ 900)
theorem testsT_succ {ts : List Tst} {k : Nat} {t : Tst} (h : ts[k]? = some t) : testsT (ts.take (k + 1)) = testsT (ts.take k) ++ testT t := by
  unfold testsT
  rw [List.take_add_one, h]; simp
theorem linesT_succ {rs : List Rl} {k : Nat} {r : Rl} (h : rs[k]? = some r) : linesT (rs.take (k + 1)) = linesT (rs.take k) ++ lineT r := by
  unfold linesT
  rw [List.take_add_one, h]; simp
theorem conv_one (W : World) (g : Nat) (x : Int) (hc : W.cell? ⟨g, 0, none⟩ = some (.int .u8 x)) : (convert 30 9 (.slice (some ⟨g, 0, none⟩) 1 1)).run Tryd.prog W = .ok (.string (strOfNums [x])) W :=
  run_convert_bytes_arg (P := Tryd.prog) _ 30 5 Tryd.underlying30 Tryd.underlying5 g 0 1 1 [x] rfl (fun i hi => by
    obtain rfl : i = 0 := by omega
    exact hc) 9 Tryd.underlying9
theorem dec_c (k : Nat) : ∀ (hk : k ≤ 9223372036854775807) (w : World), Calls Tryd.prog 61 #[.int .i64 (k : Int)] w (RetB (.string (str (Lib.decDigits k))) w) := by
  induction k using Nat.strongRecOn with
  | _ k ih =>
    intro hk w
    by_cases h : k < 10
    · have hc := conv_one (w.alloc (.cells #[.int .u8 (48 + (k : Int))] 5)) w.heap.size (48 + (k : Int)) ((Blk.new w 5 [.int .u8 (48 + (k : Int))]).cell (i := 0) rfl)
      rw [show strOfNums [48 + (k : Int)] = str [UInt8.ofNat (48 + k)] from by rw [show (48 + (k : Int)) = ((48 + k : Nat) : Int) from by omega, str_one (48 + k) (by omega)]] at hc
      have hd : Lib.decDigits k = [UInt8.ofNat (48 + k)] := Lib.decDigits_one h
      rw [← hd] at hc
      generalize Lib.decDigits k = D at *
      clear ih hd
      go_enter Tryd.func61, Tryd.ntmps61
      go_wp2
      go_returns
      exact ⟨rfl, by go_grown⟩
    · obtain ⟨q, hq⟩ : ∃ q, q = k / 10 := ⟨_, rfl⟩
      obtain ⟨d, hdd⟩ : ∃ d, d = k % 10 := ⟨_, rfl⟩
      have hd : Lib.decDigits k = Lib.decDigits q ++ [UInt8.ofNat (48 + d)] := by rw [hq, hdd, Lib.decDigits, dif_neg h]
      have hC := ih q (by omega) (by omega)
      have hc := fun W g => conv_one W g (48 + (d : Int))
      simp only [show (48 + (d : Int)) = ((48 + d : Nat) : Int) from by omega, str_one (48 + d) (by omega)] at hc
      simp only [show (((48 + d : Nat)) : Int) = 48 + (d : Int) from by omega] at hc
      rw [hd, ← str_app]
      have hl := digits_len (u := q) (by omega)
      have hs1 := str_size (Lib.decDigits q)
      have hs2 := str_size [UInt8.ofNat (48 + d)]
      have e10 : (k : Int).tdiv 10 = (q : Int) := by rw [Int.tdiv_eq_ediv_of_nonneg (by omega)]; omega
      have e11 : (k : Int).tmod 10 = (d : Int) := by rw [Int.tmod_eq_emod_of_nonneg (by omega)]; omega
      have w1 : IntKind.i64.wrap (q : Int) = q := IntWalk.i64_in _ (by omega)
      have w2 : IntKind.i64.wrap (d : Int) = d := IntWalk.i64_in _ (by omega)
      have w3 : IntKind.i64.wrap (48 + (d : Int)) = 48 + (d : Int) := IntWalk.i64_in _ (by omega)
      have w4 : IntKind.u8.wrap (48 + (d : Int)) = 48 + (d : Int) := by rw [IntKind.wrap_u8]; omega
      generalize str (Lib.decDigits q) = S1 at *
      generalize str [UInt8.ofNat (48 + d)] = S2 at *
      have hss : ¬ (9223372036854775807 : Nat) < S1.size + S2.size := by simp at hs2; omega
      have HC := Lib.hid hC
      have h0k : (0 : Int) ≤ (k : Int) := by omega
      have h10k : (10 : Int) ≤ (k : Int) := by omega
      clear ih hd hC hl hs1 hs2 hq hdd
      go_enter Tryd.func61, Tryd.ntmps61
      go_wp2_with fail
      go_region_law (first
        | (go_simp; (go_at_call 61; refine (HC.out _).mono ?_; rintro e w1 ⟨rfl, b1⟩; have hb1 := below_via (w := w) (by go_grown) b1; obtain ⟨gc1, gf1⟩ := below_get b1; (try simp only [heap_drew, World.size_alloc, World.size_setCell] at gc1 gf1); have hs1 := b1.size; (try simp at hs1); clear b1)))
      all_goals (go_wp2; go_returns; exact ⟨rfl, by go_grown⟩)
end Go.Proofs.YtflhniobbdanjaaDoor
namespace Go.Proofs.YtflhniobbdanjaaDoor
set_option linter.unusedSimpArgs false
open Go.RowKit
set_option linter.unusedVariables false
set_option linter.unnecessarySimpa false
def digB (c : UInt8) : Bool := decide (48 ≤ c.toNat ∧ c.toNat ≤ 57)
def figI (c : UInt8) : Int := (c.toNat : Int) - 48
theorem figI_b {c : UInt8} (h : digB c = true) : 0 ≤ figI c ∧ figI c ≤ 9 := by
  unfold digB at h; unfold figI
  simp only [decide_eq_true_eq] at h
  omega
/-- The program's way: figure by figure, as long as there are figures; none where there is a nought too many, or the number is too great. -/
def numF (most : Int) : List UInt8 → Int → Nat → Option (Int × Nat)
  | [], v, k => some (v, k)
  | c :: l, v, k => if digB c = true then (if (0 < k ∧ v = 0) ∨ (most - figI c) / 10 < v ∨ most < figI c then none else numF most l (v * 10 + figI c) (k + 1)) else some (v, k)
def valD (v : Int) (ds : List UInt8) : Int := ds.foldl (fun v c => v * 10 + figI c) v
theorem valD_cons (v : Int) (c : UInt8) (ds : List UInt8) : valD v (c :: ds) = valD (v * 10 + figI c) ds := rfl
theorem valD_ge {ds : List UInt8} (hd : ds.all digB = true) : ∀ {v : Int}, 0 ≤ v → v ≤ valD v ds := by
  induction ds with
  | nil => intro v h; exact Int.le_refl _
  | cons c ds ih =>
    intro v h
    rw [List.all_cons, Bool.and_eq_true] at hd
    have hf := figI_b hd.1
    have := ih hd.2 (v := v * 10 + figI c) (by omega)
    rw [valD_cons]; omega
/-- No nought too many. -/
def noNought (ds : List UInt8) : Bool := !(decide (1 < ds.length) && ds.head? == some 48)
def headNo (rest : List UInt8) : Prop := ∀ c t, rest = c :: t → digB c = false
/-- Of figures behind which there is none: the number, if it is none too great. -/
theorem numF_at {most : Int} (h9 : 9 ≤ most) {rest : List UInt8} (hr : headNo rest) (ds : List UInt8) : ds.all digB = true → ∀ (v : Int) (k : Nat), 0 ≤ v → v ≤ most → (0 < k → v = 0 → True) →
    numF most (ds ++ rest) v k = if (0 < k ∧ v = 0 → ds = []) ∧ (k = 0 → v = 0 → noNought ds = true) ∧ valD v ds ≤ most then some (valD v ds, k + ds.length) else none := by
  induction ds with
  | nil =>
    intro _ v k h0 h1 _
    rw [List.nil_append]
    have e : numF most rest v k = some (v, k) := by
      cases rest with
      | nil => rfl
      | cons c t => rw [numF, hr c t rfl]; rfl
    rw [e, if_pos]
    · rfl
    · refine ⟨fun _ => rfl, fun _ _ => rfl, h1⟩
  | cons c ds ih =>
    intro hd v k h0 h1 _
    rw [List.all_cons, Bool.and_eq_true] at hd
    have hf := figI_b hd.1
    rw [List.cons_append, numF, if_pos hd.1]
    by_cases hz : 0 < k ∧ v = 0
    · rw [if_pos (.inl hz), if_neg]
      rintro ⟨h, _⟩
      exact absurd (h hz) (by simp)
    · by_cases hb : (most - figI c) / 10 < v ∨ most < figI c
      · rw [if_pos (.inr hb), if_neg]
        rintro ⟨_, _, h⟩
        rw [valD_cons] at h
        have := valD_ge hd.2 (v := v * 10 + figI c) (by omega)
        omega
      · rw [if_neg (by
          rintro (h | h)
          · exact hz h
          · exact hb h)]
        have hv : v * 10 + figI c ≤ most := by omega
        rw [ih hd.2 (v * 10 + figI c) (k + 1) (by omega) hv (fun _ _ => trivial)]
        have e1 : k + 1 + ds.length = k + (c :: ds).length := by simp; omega
        rw [e1, valD_cons]
        -- the two conditions are one
        have key : ((0 < k + 1 ∧ v * 10 + figI c = 0 → ds = []) ∧ (k + 1 = 0 → v * 10 + figI c = 0 → noNought ds = true) ∧ valD (v * 10 + figI c) ds ≤ most) ↔ ((0 < k ∧ v = 0 → c :: ds = []) ∧ (k = 0 → v = 0 → noNought (c :: ds) = true) ∧ valD (v * 10 + figI c) ds ≤ most) := by
          constructor
          · rintro ⟨a, _, b⟩
            refine ⟨fun h => absurd h hz, fun h2 h3 => ?_, b⟩
            by_cases hc : figI c = 0
            · have := a ⟨by omega, by omega⟩
              subst this
              simp [noNought]
            · have hne : c ≠ 48 := by
                rintro rfl
                exact hc rfl
              simp [noNought, hne]
          · rintro ⟨_, a, b⟩
            refine ⟨fun h => ?_, fun h => by omega, b⟩
            have hv0 : v = 0 := by omega
            have hc0 : figI c = 0 := by omega
            have hk : k = 0 := by
              by_cases hk : 0 < k
              · exact absurd ⟨hk, hv0⟩ hz
              · omega
            have hn := a hk hv0
            have hc : c = 48 := by
              unfold figI at hc0
              apply UInt8.toNat_inj.1
              show c.toNat = 48
              omega
            subst hc
            cases ds with
            | nil => rfl
            | cons d ds => simp [noNought] at hn
        by_cases hK : ((0 < k + 1 ∧ v * 10 + figI c = 0 → ds = []) ∧ (k + 1 = 0 → v * 10 + figI c = 0 → noNought ds = true) ∧ valD (v * 10 + figI c) ds ≤ most)
        · rw [if_pos hK, if_pos (key.1 hK)]
        · rw [if_neg hK, if_neg (fun h => hK (key.2 h))]
theorem num_at {most : Int} (h9 : 9 ≤ most) {ds rest : List UInt8} (hd : ds.all digB = true) (hr : headNo rest) :
    numF most (ds ++ rest) 0 0 = if noNought ds = true ∧ valD 0 ds ≤ most then some (valD 0 ds, ds.length) else none := by
  rw [numF_at h9 hr ds hd 0 0 (Int.le_refl _) (by omega) (fun _ _ => trivial)]
  have key : ((0 < 0 ∧ (0 : Int) = 0 → ds = []) ∧ (0 = 0 → (0 : Int) = 0 → noNought ds = true) ∧ valD 0 ds ≤ most) ↔ (noNought ds = true ∧ valD 0 ds ≤ most) :=
    ⟨fun h => ⟨h.2.1 rfl rfl, h.2.2⟩, fun h => ⟨fun x => absurd x.1 (by omega), fun _ _ => h.1, h.2⟩⟩
  by_cases hK : noNought ds = true ∧ valD 0 ds ≤ most
  · rw [if_pos (key.2 hK), if_pos hK, Nat.zero_add]
  · rw [if_neg (fun h => hK (key.1 h)), if_neg hK]
/-- A text is figures, and what stands behind them. -/
theorem dig_split (l : List UInt8) : ∃ ds rest, l = ds ++ rest ∧ ds.all digB = true ∧ headNo rest := by
  refine ⟨l.takeWhile digB, l.dropWhile digB, (List.takeWhile_append_dropWhile).symm, ?_, ?_⟩
  · exact List.all_takeWhile
  · intro c t e
    have := List.head?_dropWhile_not digB l
    rw [e] at this
    simpa using this
/-- The reference's way: at most ten figures, no nought too many, a word at most; else -1. -/
def num2V (l : List UInt8) : Int := if decide (1 ≤ l.length ∧ l.length ≤ 10) && noNought l && l.all digB && decide (valD 0 l ≤ 4294967295) then valD 0 l else -1
theorem valD_pos {ds : List UInt8} (hd : ds.all digB = true) : ∀ {v : Int}, 0 ≤ v → v * 10 ^ ds.length ≤ valD v ds := by
  induction ds with
  | nil => intro v h; simp [valD]
  | cons c ds ih =>
    intro v h
    rw [List.all_cons, Bool.and_eq_true] at hd
    have hf := figI_b hd.1
    have := ih hd.2 (v := v * 10 + figI c) (by omega)
    rw [valD_cons, List.length_cons, Int.pow_succ]
    have h2 : v * 10 * 10 ^ ds.length ≤ (v * 10 + figI c) * 10 ^ ds.length := Int.mul_le_mul_of_nonneg_right (by omega) (Int.pow_nonneg (by decide))
    have e : v * (10 ^ ds.length * 10) = v * 10 * 10 ^ ds.length := by rw [Int.mul_comm (10 ^ ds.length) 10, Int.mul_assoc]
    rw [e]; omega
/-- A number that is a word, without a nought too many, has at most ten figures. -/
theorem ten_figs {ds : List UInt8} (hd : ds.all digB = true) (hn : noNought ds = true) (hv : valD 0 ds ≤ 4294967295) : ds.length ≤ 10 := by
  cases ds with
  | nil => simp
  | cons c ds =>
    by_cases hl : ds.length ≤ 9
    · simp; omega
    · exfalso
      rw [List.all_cons, Bool.and_eq_true] at hd
      have hf := figI_b hd.1
      have hc : c ≠ 48 := by
        rintro rfl
        simp [noNought] at hn
        subst hn
        simp at hl
      have hf1 : 1 ≤ figI c := by
        unfold digB at hd
        unfold figI
        have h48 : c.toNat ≠ 48 := fun e => hc (UInt8.toNat_inj.1 e)
        have := hd.1
        simp only [decide_eq_true_eq] at this
        omega
      have h1 := valD_pos hd.2 (v := 0 * 10 + figI c) (by omega)
      rw [valD_cons] at hv
      have h2 : (10 : Int) ^ 10 ≤ 10 ^ ds.length := by
        have := Nat.pow_le_pow_right (n := 10) (by decide) (show 10 ≤ ds.length by omega)
        exact_mod_cast this
      have h3 : (1 : Int) * 10 ^ ds.length ≤ (0 * 10 + figI c) * 10 ^ ds.length := Int.mul_le_mul_of_nonneg_right (by omega) (Int.pow_nonneg (by decide))
      have h4 : (10 : Int) ^ 10 = 10000000000 := by decide
      omega
/-- Both ways agree where all is figures. -/
theorem num_both {most : Int} (h9 : 9 ≤ most) (hw : most ≤ 4294967295) {ds rest : List UInt8} (hd : ds.all digB = true) (hr : headNo rest) (h1 : 1 ≤ ds.length) :
    (∀ v, numF most (ds ++ rest) 0 0 = some (v, ds.length) ↔ num2V ds = v ∧ v ≤ most ∧ 0 ≤ v) ∧ (numF most (ds ++ rest) 0 0 = none ∨ numF most (ds ++ rest) 0 0 = some (valD 0 ds, ds.length)) := by
  rw [num_at h9 hd hr]
  have h0 := valD_ge hd (v := 0) (Int.le_refl _)
  by_cases hK : noNought ds = true ∧ valD 0 ds ≤ most
  · rw [if_pos hK]
    have ht := ten_figs hd hK.1 (by omega)
    have e : num2V ds = valD 0 ds := by
      unfold num2V
      rw [if_pos]
      simp [hK.1, hd]
      omega
    refine ⟨fun v => ?_, .inr rfl⟩
    rw [e]
    constructor
    · intro h
      injection h with h
      injection h with h _
      subst h
      exact ⟨rfl, hK.2, h0⟩
    · rintro ⟨rfl, _, _⟩
      rfl
  · rw [if_neg hK]
    refine ⟨fun v => ⟨fun h => (by cases h), fun ⟨h, h2, h3⟩ => ?_⟩, .inl rfl⟩
    exfalso
    unfold num2V at h
    split at h
    · rename_i hc
      simp only [Bool.and_eq_true, decide_eq_true_eq] at hc
      exact hK ⟨hc.1.1.2, by omega⟩
    · omega
/-- The letters of a number, read. -/
theorem valD_app (v : Int) (a b : List UInt8) : valD v (a ++ b) = valD (valD v a) b := by
  unfold valD; rw [List.foldl_append]
theorem dec_digs (n : Nat) : (Lib.decDigits n).all digB = true ∧ valD 0 (Lib.decDigits n) = (n : Int) ∧ noNought (Lib.decDigits n) = true ∧ 1 ≤ (Lib.decDigits n).length ∧ (0 < n → (Lib.decDigits n).head? ≠ some 48) := by
  have hb : ∀ d, d < 10 → (UInt8.ofNat (48 + d)).toNat = 48 + d := fun d hd => by
    rw [UInt8.toNat_ofNat']
    exact Nat.mod_eq_of_lt (by omega)
  induction n using Nat.strongRecOn with
  | _ n ih =>
    by_cases h : n < 10
    · rw [Lib.decDigits_one h]
      have e := hb n h
      refine ⟨?_, ?_, ?_, by simp, fun h0 => ?_⟩
      · simp [digB, e]; omega
      · simp [valD, figI]
        omega
      · simp [noNought]
      · simp only [List.head?_cons, ne_eq, Option.some.injEq]
        intro h2
        have := congrArg UInt8.toNat h2
        rw [e] at this
        have h48 : (48 : UInt8).toNat = 48 := rfl
        omega
    · have hd : Lib.decDigits n = Lib.decDigits (n / 10) ++ [UInt8.ofNat (48 + n % 10)] := by rw [Lib.decDigits, dif_neg h]
      obtain ⟨a1, a2, a3, a4, a5⟩ := ih (n / 10) (by omega)
      have e := hb (n % 10) (by omega)
      have h6 := a5 (by omega)
      have hh : (Lib.decDigits (n / 10) ++ [UInt8.ofNat (48 + n % 10)]).head? = (Lib.decDigits (n / 10)).head? := by
        cases hq : Lib.decDigits (n / 10) with
        | nil => rw [hq] at a4; simp at a4
        | cons c t => rfl
      rw [hd]
      refine ⟨?_, ?_, ?_, by simp, fun _ => by rw [hh]; exact h6⟩
      · rw [List.all_append, a1]
        simp [digB, e]; omega
      · rw [valD_app, a2]
        simp [valD, figI, e]; omega
      · unfold noNought
        rw [hh]
        have : ((Lib.decDigits (n / 10)).head? == some 48) = false := by simpa using h6
        rw [this]; simp
end Go.Proofs.YtflhniobbdanjaaDoor
namespace Go.Proofs.YtflhniobbdanjaaDoor
set_option linter.unusedSimpArgs false
open Go.RowKit
set_option linter.unusedVariables false
set_option linter.unnecessarySimpa false
set_option maxRecDepth 20000
theorem valD_lt {ds : List UInt8} (hd : ds.all digB = true) : ∀ {v : Int} {m : Nat}, 0 ≤ v → v < 10 ^ m → valD v ds < 10 ^ (m + ds.length) := by
  induction ds with
  | nil => intro v m h0 h; simpa [valD] using h
  | cons c ds ih =>
    intro v m h0 h
    rw [List.all_cons, Bool.and_eq_true] at hd
    have hf := figI_b hd.1
    rw [valD_cons]
    have := ih hd.2 (v := v * 10 + figI c) (m := m + 1) (by omega) (by rw [Int.pow_succ]; omega)
    rw [List.length_cons, show m + (ds.length + 1) = m + 1 + ds.length from by omega]
    exact this
theorem val_ten {ds : List UInt8} (hd : ds.all digB = true) (hl : ds.length ≤ 10) : 0 ≤ valD 0 ds ∧ valD 0 ds ≤ 9999999999 := by
  refine ⟨valD_ge hd (Int.le_refl _), ?_⟩
  have h := valD_lt hd (v := 0) (m := 0) (Int.le_refl _) (by decide)
  have h2 : (10 : Int) ^ (0 + ds.length) ≤ 10 ^ 10 := by
    have := Nat.pow_le_pow_right (n := 10) (by decide) (show 0 + ds.length ≤ 10 by omega)
    exact_mod_cast this
  have h4 : (10 : Int) ^ 10 = 10000000000 := by decide
  omega
theorem take_dig {l : List UInt8} {k : Nat} {c : UInt8} (h : l[k]? = some c) : (l.take (k + 1)).all digB = ((l.take k).all digB && digB c) ∧ valD 0 (l.take (k + 1)) = valD 0 (l.take k) * 10 + figI c := by
  rw [List.take_add_one, h]
  refine ⟨by simp, ?_⟩
  rw [valD_app]
  rfl
theorem num2_no {l : List UInt8} (h : ¬ (1 ≤ l.length ∧ l.length ≤ 10) ∨ noNought l = false ∨ l.all digB = false ∨ 4294967295 < valD 0 l) : num2V l = -1 := by
  unfold num2V
  rw [if_neg]
  intro hc
  simp only [Bool.and_eq_true, decide_eq_true_eq] at hc
  rcases h with h | h | h | h
  · exact h hc.1.1.1
  · rw [hc.1.1.2] at h; cases h
  · rw [hc.1.2] at h; cases h
  · omega
theorem num2_yes {l : List UInt8} (h1 : 1 ≤ l.length ∧ l.length ≤ 10) (h2 : noNought l = true) (h3 : l.all digB = true) (h4 : valD 0 l ≤ 4294967295) : num2V l = valD 0 l := by
  unfold num2V
  rw [if_pos]
  simp [h2, h3, h4, h1]
set_option maxHeartbeats 1600000 in
set_option maxRecDepth 100000 in
theorem l2Num_c (l : List UInt8) (hl : l.length ≤ 9223372036854775807) (w : World) : Calls Tryd.prog 40 #[.string (str l)] w (RetW (.int .i64 (num2V l)) w) := by
  have hsz := str_size l
  have HAT : Hid (∀ k (h1 : k < (str l).size) (hk : k < l.length), (str l)[k]'h1 = l[k]'hk) := Lib.hid (fun k h1 hk => by simp [str, ByteArray.getElem_eq_getElem_data])
  obtain ⟨L, hL⟩ : ∃ L : ByteArray, L = str l := ⟨_, rfl⟩
  rw [← hL] at hsz HAT ⊢
  clear hL
  have HI := Lib.hid (fun W => l1In_c (l.length : Int) 1 10 W)
  by_cases h1 : 1 ≤ l.length ∧ l.length ≤ 10
  · have e1 : decide ((1 : Int) ≤ (l.length : Int) ∧ (l.length : Int) ≤ 10) = true := by simp only [decide_eq_true_eq]; omega
    rw [e1] at HI
    have h0 : 0 < l.length := h1.1
    have h10 : l.length ≤ 10 := h1.2
    have hat := HAT.out 0 (by omega) h0
    have hh : l.head? = some (l[0]'h0) := by rw [List.head?_eq_getElem?, List.getElem?_eq_getElem]
    have HH := Lib.hid hh
    by_cases hn : noNought l = true
    · have HN := Lib.hid hn
      have hc : ((1 : Int) < (l.length : Int)) → ((((L[0]'(by omega)).toNat : Nat) : Int) == 48) = false := fun hlt => by
        have := hn
        unfold noNought at this
        rw [hh, ← hat] at this
        simp only [Bool.not_eq_true', Bool.and_eq_false_iff, decide_eq_false_iff_not, beq_eq_false_iff_ne] at this
        rcases this with h | h
        · omega
        · have h48 : (L[0]'(by omega)).toNat ≠ 48 := fun e => h (by rw [UInt8.toNat_inj.1 (show (L[0]'(by omega)).toNat = (48 : UInt8).toNat from e)])
          simp only [beq_eq_false_iff_ne]
          omega
      clear hat hh hn e1
      have HGO : Hid (∀ (k : Nat) (hk : k < l.length), (l.take (k + 1)).all digB = ((l.take k).all digB && digB (l[k]'hk)) ∧ valD 0 (l.take (k + 1)) = valD 0 (l.take k) * 10 + figI (l[k]'hk)) := Lib.hid (fun k hk => take_dig (List.getElem?_eq_getElem hk))
      have HTEN : Hid (∀ k, (l.take k).all digB = true → 0 ≤ valD 0 (l.take k) ∧ valD 0 (l.take k) ≤ 9999999999) := Lib.hid (fun k hk => val_ten hk (by rw [List.length_take]; omega))
      rcases Nat.lt_or_ge 1 l.length with hlt | hlt
      all_goals
        first
          | (have hc1 := hc (by omega))
          | (have hc2 : ¬ (1 : Int) < (l.length : Int) := by omega)
        clear hc
        go_enter Tryd.func40, Tryd.ntmps40
        (go_wp2_with fail); (go_at_call 38; refine (HI.out _).mono ?_; rintro e w1 ⟨rfl, rfl⟩)
        go_wp2_with fail
        go_loopg [3, 4] l.length (fun gk v i wr => ∃ (k : Nat) (x : Int), gk + k = l.length ∧ v = .int .i64 x ∧ i = .int .i64 k ∧ 0 ≤ x ∧ x ≤ 9999999999 ∧ Hid ((l.take k).all digB = true) ∧ Hid (valD 0 (l.take k) = x) ∧ wr = w)
        case atStart => exact ⟨0, 0, rfl, rfl, rfl, by omega, by omega, Lib.hid (by simp), Lib.hid (by simp [valD]), rfl⟩
        case round =>
          obtain ⟨k, x, hgk, rfl, rfl, hx0, hx1, HDk, HVk, rfl⟩ := hrel
          by_cases hk : k < l.length
          · have hat := HAT.out k (by omega) hk
            have hgo := HGO.out k hk
            rw [← hat] at hgo
            have HG := Lib.hid hgo
            have HK : Hid (digB (L[k]'(by omega)) = false → l.all digB = false) := Lib.hid (fun h => by
              rw [hat] at h
              rw [Bool.eq_false_iff]
              intro ha
              rw [List.all_eq_true] at ha
              rw [ha _ (List.getElem_mem hk)] at h
              cases h)
            obtain ⟨gm, rfl⟩ : ∃ m, gk = m + 1 := ⟨gk - 1, by omega⟩
            clear hat hgo
            go_wp2_with fail
            · go_returns
              go_light
              rw [num2_no (.inr (.inr (.inl (HK.out (by unfold digB; simp only [decide_eq_false_iff_not]; omega)))))]
              exact ⟨rfl, rfl⟩
            · go_roundg gm
              case measure => omega
              case rel =>
                go_light
                obtain ⟨g1, g2⟩ := HG.out
                have hd : digB (L[k]'(by omega)) = true := by unfold digB; simp only [decide_eq_true_eq]; omega
                rw [HDk.out, hd] at g1
                have ht := HTEN.out (k + 1) g1
                have g2' := g2
                rw [HVk.out] at g2'
                rw [g2'] at ht
                exact ⟨k + 1, x * 10 + figI (L[k]'(by omega)), by omega, by unfold figI; go_num, by go_num, ht.1, ht.2, Lib.hid g1, Lib.hid g2', rfl⟩
            · go_returns
              go_light
              rw [num2_no (.inr (.inr (.inl (HK.out (by unfold digB; simp only [decide_eq_false_iff_not]; omega)))))]
              exact ⟨rfl, rfl⟩
          · have hkl : k = l.length := by omega
            have ha : l.all digB = true := by have := HDk.out; rwa [hkl, List.take_length] at this
            have hv : valD 0 l = x := by have := HVk.out; rwa [hkl, List.take_length] at this
            have HY : Hid (x ≤ 4294967295 → num2V l = x) := Lib.hid (fun h => by rw [num2_yes h1 HN.out ha (by omega), hv])
            have HNo : Hid (4294967295 < x → num2V l = -1) := Lib.hid (fun h => num2_no (.inr (.inr (.inr (by omega)))))
            clear ha hv HDk HVk
            by_cases hw : x ≤ 4294967295
            · have HQ := Lib.hid (HY.out hw)
              clear HY HNo
              go_wp2
              go_returns
              rw [HQ.out]
              exact ⟨rfl, rfl⟩
            · have HQ := Lib.hid (HNo.out (by omega))
              clear HY HNo
              go_wp2
              go_returns
              rw [HQ.out]
              exact ⟨rfl, rfl⟩
    · have hf : noNought l = false := by simpa using hn
      have HE := Lib.hid (num2_no (.inr (.inl hf)))
      have hlt : 1 < l.length := by
        unfold noNought at hf
        simp only [Bool.not_eq_false', Bool.and_eq_true, decide_eq_true_eq] at hf
        exact hf.1
      have hpos : 0 < L.size := by rw [hsz]; exact h0
      have hc : ((((L[0]'hpos).toNat : Nat) : Int) == 48) = true := by
        unfold noNought at hf
        rw [hh, ← hat] at hf
        simp only [Bool.not_eq_false', Bool.and_eq_true, beq_iff_eq, Option.some.injEq] at hf
        rw [hf.2]
        rfl
      rw [HE.out]
      clear h1 e1 HAT hat hh hn hf HE HH
      go_enter Tryd.func40, Tryd.ntmps40
      (go_wp2_with fail); (go_at_call 38; refine (HI.out _).mono ?_; rintro e w1 ⟨rfl, rfl⟩)
      go_wp2
      go_returns
      exact ⟨rfl, rfl⟩
  · have e1 : decide ((1 : Int) ≤ (l.length : Int) ∧ (l.length : Int) ≤ 10) = false := by simp only [decide_eq_false_iff_not]; omega
    rw [e1] at HI
    have HE := Lib.hid (num2_no (.inl h1))
    rw [HE.out]
    clear h1 e1 HAT
    go_enter Tryd.func40, Tryd.ntmps40
    (go_wp2_with fail); (go_at_call 38; refine (HI.out _).mono ?_; rintro e w1 ⟨rfl, rfl⟩)
    go_wp2
    go_returns
    exact ⟨rfl, rfl⟩
end Go.Proofs.YtflhniobbdanjaaDoor
