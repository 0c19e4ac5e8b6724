/- Parts of laws in one text. Conditions: each lemma's own. -/
import Derived.Test.YtflhniobbdanjaaDoorRows
import Derived.Test.YtflhniobbdanjaaDoorBase
import Derived.Test.YtflhniobbdanjaaDoorJ37779f7d65
import Derived.Laws.Shifts
import Derived.Deep.RegionHeld3
import Derived.Deep.RegionLaw
import Derived.Deep.AppendLies
import Derived.Deep.LoopGhost
import Derived.Deep.QuietTactic
import Derived.BigQuiet
import Derived.Deep.DeepCutAuto
import Derived.BigRegion
namespace Go.Proofs.YtflhniobbdanjaaDoor
set_option linter.unusedSimpArgs false
open Go.RowKit
set_option linter.unusedVariables false
set_option linter.unnecessarySimpa false
def isU32 (x : Int) : Prop := 0 ≤ x ∧ x < 4294967296
theorem or_comm_u32 (a b : Int) : bits .or .u32 a b = bits .or .u32 b a := by
  show IntKind.u32.wrap ((BitVec.ofInt 32 a ||| BitVec.ofInt 32 b).toNat : Int) = IntKind.u32.wrap ((BitVec.ofInt 32 b ||| BitVec.ofInt 32 a).toNat : Int)
  rw [BitVec.or_comm]
/-- x with its bits turned n places to the right. -/
def rr (n : Nat) (x : Int) : Int := bits .or .u32 (x * 2 ^ (32 - n) % 4294967296) (x / 2 ^ n)
end Go.Proofs.YtflhniobbdanjaaDoor
namespace Go.Proofs.YtflhniobbdanjaaDoor
set_option linter.unusedSimpArgs false
open Go.RowKit
set_option linter.unusedVariables false
set_option linter.unnecessarySimpa false
theorem u32_bits (op : BinOp) (a b : Int) (h : op = .and ∨ op = .or ∨ op = .xor ∨ op = .andNot) : isU32 (bits op .u32 a b) := by
  have key : ∀ n : Nat, isU32 (IntKind.u32.wrap (n : Int)) := fun n => by
    show 0 ≤ IntKind.u32.wrap (n : Int) ∧ IntKind.u32.wrap (n : Int) < 4294967296
    rw [IntKind.wrap_u32]; omega
  rcases h with rfl | rfl | rfl | rfl
  · exact key _
  · exact key _
  · exact key _
  · exact key _
theorem u32_rr (n : Nat) (x : Int) : isU32 (rr n x) := u32_bits .or _ _ (by simp)
def add32 (a b : Int) : Int := (a + b) % 4294967296
theorem u32_add (a b : Int) : isU32 (add32 a b) := by unfold isU32 add32; omega
theorem u32_mod (a : Int) : isU32 (a % 4294967296) := by unfold isU32; omega
def xor32 (a b : Int) : Int := bits .xor .u32 a b
def and32 (a b : Int) : Int := bits .and .u32 a b
def small0 (x : Int) : Int := xor32 (xor32 (rr 7 x) (rr 18 x)) (x / 8)
def small1 (x : Int) : Int := xor32 (xor32 (rr 17 x) (rr 19 x)) (x / 1024)
def big1 (x : Int) : Int := xor32 (xor32 (rr 6 x) (rr 11 x)) (rr 25 x)
def big0 (x : Int) : Int := xor32 (xor32 (rr 2 x) (rr 13 x)) (rr 22 x)
def u32s (xs : List Int) : List Value := xs.map (Value.int .u32)
theorem u32s_at {xs : List Int} {k : Nat} {x : Int} (h : xs[k]? = some x) : (u32s xs)[k]? = some (.int .u32 x) := by simp [u32s, h]
theorem u8s_at {xs : List Int} {k : Nat} {x : Int} (h : xs[k]? = some x) : (u8s xs)[k]? = some (.int .u8 x) := by simp [u8s, h]
def word4 (a b c d : Int) : Int := bits .or .u32 (bits .or .u32 (bits .or .u32 (a * 16777216) (b * 65536)) (c * 256)) d
def next (l : List Int) (k : Nat) : Int := (l.getD (k - 16) 0 + small0 (l.getD (k - 15) 0) + l.getD (k - 7) 0 + small1 (l.getD (k - 2) 0)) % 4294967296
def wordAt (bs : List Int) (k : Nat) : Int := word4 (bs.getD (4 * k) 0) (bs.getD (4 * k + 1) 0) (bs.getD (4 * k + 2) 0) (bs.getD (4 * k + 3) 0)
/-- The first words that a block gives. -/
def sched (bs : List Int) : Nat → List Int
  | 0 => []
  | k + 1 => sched bs k ++ [if k < 16 then wordAt bs k else next (sched bs k) k]
theorem sched_len (bs : List Int) (k : Nat) : (sched bs k).length = k := by
  induction k with
  | zero => rfl
  | succ k ih => rw [sched, List.length_append, ih]; rfl
theorem sched_u32 (bs : List Int) (k : Nat) : ∀ x ∈ sched bs k, isU32 x := by
  induction k with
  | zero => intro x hx; cases hx
  | succ k ih =>
    intro x hx
    rw [sched, List.mem_append] at hx
    rcases hx with hx | hx
    · exact ih x hx
    · simp only [List.mem_singleton] at hx
      subst hx
      split
      · exact u32_bits .or _ _ (by simp)
      · exact u32_mod _
theorem sched_getD (bs : List Int) (k j : Nat) : isU32 ((sched bs k).getD j 0) := by
  unfold List.getD
  cases h : (sched bs k)[j]? with
  | none => exact ⟨by simp, by simp⟩
  | some x => exact sched_u32 bs k x (List.mem_of_getElem? h)
theorem sched_take (bs : List Int) (k n : Nat) (h : k ≤ n) : (sched bs n).take k = sched bs k := by
  induction n with
  | zero => obtain rfl : k = 0 := by omega
            rfl
  | succ n ih =>
    by_cases hk : k = n + 1
    · subst hk; exact List.take_of_length_le (by rw [sched_len]; omega)
    · rw [sched, List.take_append_of_le_length (by rw [sched_len]; omega)]
      exact ih (by omega)
theorem getD_take {l s : List Int} {k j : Nat} {x : Int} (ht : l.take k = s) (hj : j < k) (hx : l[j]? = some x) : s.getD j 0 = x := by
  subst ht
  simp [List.getD, List.getElem?_take, hj, hx]
theorem set_take {l s : List Int} {k : Nat} {x : Int} (ht : l.take k = s) (hk : k < l.length) : (l.set k x).take (k + 1) = s ++ [x] := by
  rw [List.take_add_one, List.getElem?_set_self hk, List.take_set_of_le (Nat.le_refl _), ht]; rfl
theorem getD_of {l : List Int} {j : Nat} {x : Int} (hx : l[j]? = some x) : l.getD j 0 = x := by simp [List.getD, hx]
theorem u32s_set (l : List Int) (k : Nat) (x : Int) : (u32s l).set k (.int .u32 x) = u32s (l.set k x) := by simp [u32s, List.map_set]
theorem u32s_len (l : List Int) : (u32s l).length = l.length := by simp [u32s]
theorem u8s_len (l : List Int) : (u8s l).length = l.length := by simp [u8s]
/-- The cells of a summer. -/
def hcells (ws bs : List Int) (u tk : Int) : List Value := u32s ws ++ u8s bs ++ [.int .i64 u, .int .u64 tk]
theorem hcells_w {ws bs : List Int} {u tk : Int} {i : Nat} {x : Int} (hx : ws[i]? = some x) : (hcells ws bs u tk)[i]? = some (.int .u32 x) := by
  have hl := (List.getElem?_eq_some_iff.1 hx).1
  unfold hcells
  rw [List.append_assoc, List.getElem?_append_left (by rw [u32s_len]; exact hl)]
  exact u32s_at hx
theorem hcells_b {ws bs : List Int} {u tk : Int} {i : Nat} {x : Int} (hw : ws.length = 8) (hx : bs[i]? = some x) : (hcells ws bs u tk)[8 + i]? = some (.int .u8 x) := by
  have hl := (List.getElem?_eq_some_iff.1 hx).1
  unfold hcells
  rw [List.append_assoc, List.getElem?_append_right (by rw [u32s_len]; omega), List.getElem?_append_left (by rw [u8s_len, u32s_len]; omega), u32s_len, hw, show 8 + i - 8 = i from by omega]
  exact u8s_at hx
theorem hcells_u {ws bs : List Int} {u tk : Int} (hw : ws.length = 8) (hb : bs.length = 64) : (hcells ws bs u tk)[72]? = some (.int .i64 u) := by
  unfold hcells
  rw [List.getElem?_append_right (by rw [List.length_append, u32s_len, u8s_len]; omega), List.length_append, u32s_len, u8s_len, hw, hb]; rfl
theorem hcells_t {ws bs : List Int} {u tk : Int} (hw : ws.length = 8) (hb : bs.length = 64) : (hcells ws bs u tk)[73]? = some (.int .u64 tk) := by
  unfold hcells
  rw [List.getElem?_append_right (by rw [List.length_append, u32s_len, u8s_len]; omega), List.length_append, u32s_len, u8s_len, hw, hb]; rfl
theorem Blk.newAt (w : World) (t g : Nat) (cs : List Value) (hg : g = w.heap.size) : Blk (w.alloc (.cells cs.toArray t)) g t cs := hg ▸ Blk.new w t cs
structure St where
  (a b c d e f g h : Int)
def St.list (s : St) : List Int := [s.a, s.b, s.c, s.d, s.e, s.f, s.g, s.h]
def St.of (ws : List Int) : St := ⟨ws.getD 0 0, ws.getD 1 0, ws.getD 2 0, ws.getD 3 0, ws.getD 4 0, ws.getD 5 0, ws.getD 6 0, ws.getD 7 0⟩
theorem St.of_list {ws : List Int} (h : ws.length = 8) : (St.of ws).list = ws := by
  match ws, h with
  | [a, b, c, d, e, f, g, h], _ => rfl
/-- The words that are added round by round. -/
def roundK : List Int := [1116352408, 1899447441, 3049323471, 3921009573, 961987163, 1508970993, 2453635748, 2870763221, 3624381080, 310598401, 607225278, 1426881987, 1925078388, 2162078206, 2614888103, 3248222580, 3835390401, 4022224774, 264347078, 604807628, 770255983, 1249150122, 1555081692, 1996064986, 2554220882, 2821834349, 2952996808, 3210313671, 3336571891, 3584528711, 113926993, 338241895, 666307205, 773529912, 1294757372, 1396182291, 1695183700, 1986661051, 2177026350, 2456956037, 2730485921, 2820302411, 3259730800, 3345764771, 3516065817, 3600352804, 4094571909, 275423344, 430227734, 506948616, 659060556, 883997877, 958139571, 1322822218, 1537002063, 1747873779, 1955562222, 2024104815, 2227730452, 2361852424, 2428436474, 2756734187, 3204031479, 3329325298]
def choose (e f g : Int) : Int := xor32 (and32 e f) (and32 (bits .xor .u32 IntKind.u32.max e) g)
def rnd (s : St) (k w : Int) : St :=
  ⟨(s.h + big1 s.e + choose s.e s.f s.g + k + w + big0 s.a + xor32 (xor32 (and32 s.a s.b) (and32 s.a s.c)) (and32 s.b s.c)) % 4294967296, s.a, s.b, s.c,
    (s.d + (s.h + big1 s.e + choose s.e s.f s.g + k + w)) % 4294967296, s.e, s.f, s.g⟩
def rnds (W : List Int) (s : St) : Nat → St
  | 0 => s
  | k + 1 => rnd (rnds W s k) (roundK.getD k 0) (W.getD k 0)
def St.ok (s : St) : Prop := isU32 s.a ∧ isU32 s.b ∧ isU32 s.c ∧ isU32 s.d ∧ isU32 s.e ∧ isU32 s.f ∧ isU32 s.g ∧ isU32 s.h
theorem rnd_ok {s : St} (h : s.ok) (k w : Int) : (rnd s k w).ok := ⟨u32_mod _, h.1, h.2.1, h.2.2.1, u32_mod _, h.2.2.2.2.1, h.2.2.2.2.2.1, h.2.2.2.2.2.2.1⟩
theorem rnds_ok {s : St} (h : s.ok) (W : List Int) (k : Nat) : (rnds W s k).ok := by
  induction k with
  | zero => exact h
  | succ k ih => exact rnd_ok ih _ _
/-- What a block makes of the words. -/
def mixed (ws bs : List Int) : List Int := List.zipWith add32 ws (rnds (sched bs 64) (St.of ws) 64).list
theorem mixed_len {ws bs : List Int} (h : ws.length = 8) : (mixed ws bs).length = 8 := by simp [mixed, h, St.list]
theorem mixed_u32 {ws bs : List Int} (h : ws.length = 8) : ∀ x ∈ mixed ws bs, isU32 x := by
  intro x hx
  unfold mixed at hx
  obtain ⟨i, hi, e⟩ := List.getElem_of_mem hx
  rw [List.getElem_zipWith] at e
  rw [← e]; exact u32_add _ _
theorem of_ok {ws : List Int} (h : ws.length = 8) (hu : ∀ x ∈ ws, isU32 x) : (St.of ws).ok := by
  match ws, h, hu with
  | [a, b, c, d, e, f, g, h], _, hu => show isU32 a ∧ isU32 b ∧ isU32 c ∧ isU32 d ∧ isU32 e ∧ isU32 f ∧ isU32 g ∧ isU32 h; exact ⟨hu a (by simp), hu b (by simp), hu c (by simp), hu d (by simp), hu e (by simp), hu f (by simp), hu g (by simp), hu h (by simp)⟩
theorem hcells_set {ws bs : List Int} {u tk : Int} {k : Nat} {x : Int} (h : k < ws.length) : (hcells ws bs u tk).set k (.int .u32 x) = hcells (ws.set k x) bs u tk := by
  unfold hcells
  rw [List.append_assoc, List.set_append_left _ _ (by rw [u32s_len]; exact h), u32s_set, List.append_assoc]
theorem drop_at {a b : List Int} {k : Nat} {x : Int} (h : a.drop k = b.drop k) (hx : b[k]? = some x) : a[k]? = some x := by
  have h1 := congrArg (fun l => l[0]?) h
  simp only [List.getElem?_drop, Nat.add_zero] at h1
  rw [h1]; exact hx
theorem drop_set {a b : List Int} {k : Nat} {x : Int} (h : a.drop k = b.drop k) : (a.set k x).drop (k + 1) = b.drop (k + 1) := by
  rw [List.drop_set_of_lt (by omega)]
  have := congrArg (List.drop 1) h
  simpa using this
theorem take_zip {ws sl us : List Int} {k : Nat} {x y : Int} (h : us.take k = (List.zipWith add32 ws sl).take k) (hl : k < us.length) (hx : ws[k]? = some x) (hy : sl[k]? = some y) :
    (us.set k (add32 x y)).take (k + 1) = (List.zipWith add32 ws sl).take (k + 1) := by
  rw [set_take h hl, List.take_add_one, List.getElem?_zipWith, hx, hy]; rfl
end Go.Proofs.YtflhniobbdanjaaDoor
namespace Go.Proofs.YtflhniobbdanjaaDoor
set_option linter.unusedSimpArgs false
open Go.RowKit
set_option linter.unusedVariables false
set_option linter.unnecessarySimpa false
end Go.Proofs.YtflhniobbdanjaaDoor
