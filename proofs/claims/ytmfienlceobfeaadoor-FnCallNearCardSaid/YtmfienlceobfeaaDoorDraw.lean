/- The reader of drawn inputs: its state, and the contract of pick. Conditions: each contract's own. -/
import Derived.Test.YtmfienlceobfeaaDoorRows
import Derived.Test.YtmfienlceobfeaaDoorBase
import Derived.Deep.LoopGhost
import Derived.Deep.QuietTactic
import Derived.BigQuiet
import Derived.Deep.DeepCutAuto
namespace Go.Proofs.YtmfienlceobfeaaDoor
set_option linter.unusedSimpArgs false
open Go.RowKit
set_option linter.unusedVariables false
def u8s (xs : List Int) : List Value := xs.map (Value.int .u8)
/-- Block g is a reader at place p of the bytes xs, that lie below it. -/
structure Dr (w : World) (g t : Nat) (p : Int) (A : Option Addr) (n c : Nat) (xs : List Int) : Prop where
  blk : Blk w g t [.slice A n c, .int .i64 p]
  rd : Rd w g 1 A n (u8s xs)
  byte : ∀ x ∈ xs, 0 ≤ x ∧ x ≤ 255
  size : n ≤ 2000
  low : 0 ≤ p
theorem Dr.upto {w w' : World} {g t : Nat} {p : Int} {A : Option Addr} {n c : Nat} {xs : List Int} (h : Dr w g t p A n c xs) (hb : Below w.heap.size w w') : Dr w' g t p A n c xs :=
  ⟨h.blk.up hb, ⟨h.rd.1, fun hn => by
    obtain ⟨b, off, e, hlt, hc⟩ := h.rd.2 hn
    exact ⟨b, off, e, hlt, fun j u hu => (hb.cell (p := ⟨b, off + j, none⟩) (Nat.lt_trans hlt h.blk.lt)).trans (hc j u hu)⟩⟩, h.byte, h.size, h.low⟩
/-- The call returns an int that P knows; only the reader's block and new blocks have turned, and the reader is at most K places further on. -/
def RetDraw (P : Value → World → Prop) (g t : Nat) (p : Int) (K : Int) (A : Option Addr) (n c : Nat) (xs : List Int) (w : World) (e : Ending) (w' : World) : Prop :=
  ∃ v q, e = .returned v ∧ P v w' ∧ Dr w' g t q A n c xs ∧ p ≤ q ∧ q ≤ p + K ∧ w.grownBy w' (some g)
section
variable {a w w' W : World} {g : Nat}
theorem gr_refl (w : World) (g : Nat) : w.grownBy w (some g) := World.grownBy.refl w _
theorem gr_drew (h : a.grownBy w (some g)) : a.grownBy w.drew (some g) := ⟨h.os, h.tape, h.output, h.size, h.block⟩
theorem gr_drewN (h : a.grownBy w (some g)) (n : Nat) : a.grownBy (w.drewN n) (some g) := ⟨h.os, h.tape, h.output, h.size, h.block⟩
theorem gr_alloc (h : a.grownBy w (some g)) (o : Obj) : a.grownBy (w.alloc o) (some g) :=
  ⟨h.os, h.tape, h.output, Nat.le_trans h.size (by simp), fun i hi hne => (Below.heap_alloc w o i (Nat.lt_of_lt_of_le hi h.size)).trans (h.block i hi hne)⟩
theorem gr_set (h : a.grownBy w (some g)) {p : Addr} (hp : p.block = g ∨ a.heap.size ≤ p.block) (u : Value) : a.grownBy (w.setCell p u) (some g) :=
  ⟨h.os, h.tape, h.output, by simpa using h.size, fun i hi hne => (heap_setCell_other w p i u (by
    intro e
    rcases hp with hp | hp
    · exact hne (by rw [← hp, e])
    · omega)).trans (h.block i hi hne)⟩
theorem gr_via (h : w.grownBy W (some g)) (k : W.grownBy w' (some g)) : w.grownBy w' (some g) := h.trans k
theorem gr_below (h : w.grownBy w' (some g)) {B : Nat} (hB : B ≤ g) (hw : B ≤ w.heap.size) : Below B w w' :=
  ⟨h.os, h.tape, h.output, h.size, fun k hk => h.block k (by omega) (fun e => by injection e; omega)⟩
theorem grown_get (h : w.grownBy w' (some g)) : (∀ b o, b < w.heap.size → b ≠ g → w'.cell? ⟨b, o, none⟩ = w.cell? ⟨b, o, none⟩) ∧ (∀ b o, b < w.heap.size → b ≠ g → w'.frozen? ⟨b, o, none⟩ = w.frozen? ⟨b, o, none⟩) :=
  ⟨fun b o hb hg => World.cell?_of_block (w := w) (a := ⟨b, o, none⟩) (h.block b hb (by simpa using hg)), fun b o hb hg => World.frozen?_of_block (w := w) (a := ⟨b, o, none⟩) (h.block b hb (by simpa using hg))⟩
end
def PickIs (m : Int) (v : Value) (_ : World) : Prop := ∃ x, v = .int .i64 x ∧ 0 ≤ x ∧ (1 ≤ m → x < m)
theorem Dr.step {w : World} {g t : Nat} {p : Int} {A : Option Addr} {n c : Nat} {xs : List Int} (h : Dr w g t p A n c xs) (q : Int) (hq : 0 ≤ q) : Dr (w.setCell ⟨g, 1, none⟩ (.int .i64 q)) g t q A n c xs ∧ w.grownBy (w.setCell ⟨g, 1, none⟩ (.int .i64 q)) (some g) := by
  refine ⟨⟨h.blk.set_ 1 _, ⟨h.rd.1, fun hn => ?_⟩, h.byte, h.size, hq⟩, ⟨rfl, rfl, rfl, by simp, fun k _ hk => heap_setCell_other w ⟨g, 1, none⟩ k _ (fun e => hk (by simp [e]))⟩⟩
  obtain ⟨b, off, e, hlt, hc⟩ := h.rd.2 hn
  exact ⟨b, off, e, hlt, fun j u hu => (World.cell?_of_block (heap_setCell_other w ⟨g, 1, none⟩ b _ (by simp; omega))).trans (hc j u hu)⟩
theorem Dr.drewN {w : World} {g t : Nat} {p : Int} {A : Option Addr} {n c : Nat} {xs : List Int} (h : Dr w g t p A n c xs) (k : Nat) : Dr (w.drewN k) g t p A n c xs := ⟨h.blk, h.rd, h.byte, h.size, h.low⟩
theorem grown_drewN {a w : World} {row : Option Nat} (h : a.grownBy w row) (n : Nat) : a.grownBy (w.drewN n) row := ⟨h.os, h.tape, h.output, h.size, h.block⟩
theorem i64_xor_nonneg (a b : Int) (h0 : 0 ≤ a) (ha : a ≤ 1152921504606846976) (h1 : 0 ≤ b) (hb : b ≤ 1152921504606846976) : 0 ≤ bits .xor .i64 a b := by
  obtain ⟨a, rfl⟩ := Int.eq_ofNat_of_zero_le h0
  obtain ⟨b, rfl⟩ := Int.eq_ofNat_of_zero_le h1
  have e : ∀ a : Nat, a ≤ 1152921504606846976 → (BitVec.ofInt 64 (a : Int)).toNat = a := fun a h => by
    rw [BitVec.ofInt_natCast, BitVec.toNat_ofNat]; exact Nat.mod_eq_of_lt (by omega)
  have hx : a ^^^ b < 2 ^ 62 := Nat.xor_lt_two_pow (by omega) (by omega)
  show 0 ≤ IntKind.i64.wrap ((BitVec.ofInt 64 (a : Int) ^^^ BitVec.ofInt 64 (b : Int)).toNat : Int)
  rw [BitVec.toNat_xor, e a (by omega), e b (by omega), IntKind.wrap_i64]
  omega
theorem pick_c (g : Nat) (m p : Int) (A : Option Addr) (n c : Nat) (xs : List Int) (w : World) (h : Dr w g 56 p A n c xs) (hp : p ≤ 1099511627776) :
    Calls Tryd.prog 13 #[.pointer (some ⟨g, 0, none⟩), .int .i64 m] w (RetDraw (PickIs m) g 56 p 1 A n c xs w) := by
  have hp0 := h.low
  have hsz := h.size
  obtain ⟨hd, hg⟩ := h.step (p + 1) (by omega)
  have c0 := h.blk.cell (i := 0) rfl
  have c1 := h.blk.cell (i := 1) rfl
  have cf := h.blk.free
  have HD := Lib.hid hd
  have HG := Lib.hid hg
  have HH := Lib.hid h
  clear hd hg h
  by_cases hm : m < 1
  · go_enter Tryd.func13, Tryd.ntmps13
    go_wp2
    go_returns
    exact ⟨_, p + 1, rfl, ⟨0, rfl, by omega, by omega⟩, HD.out, by omega, by omega, HG.out⟩
  · by_cases hn : n = 0
    · subst hn
      have e0 : decide (m < 1) = false := by simp; omega
      go_enter Tryd.func13, Tryd.ntmps13
      go_wp2
      go_returns
      exact ⟨_, p + 1, rfl, ⟨0, rfl, by omega, by omega⟩, HD.out, by omega, by omega, HG.out⟩
    · have e0 : decide (m < 1) = false := by simp; omega
      have e1 : ((n : Int) == 0) = false := by simp; omega
      obtain ⟨b, off, rfl, hb, hc⟩ := HH.out.rd.2 (by omega)
      have hl : xs.length = n := by have := HH.out.rd.len1; simpa [u8s] using this
      have key : ∀ j, j < n → ∃ x, xs[j]? = some x ∧ 0 ≤ x ∧ x ≤ 255 ∧ w.cell? ⟨b, off + j, none⟩ = some (.int .u8 x) := by
        intro j hj
        obtain ⟨x, hx⟩ := some_at hl hj
        have := HH.out.byte x (List.mem_of_getElem? hx)
        exact ⟨x, hx, this.1, this.2, hc j _ (by simp [u8s, hx])⟩
      obtain ⟨k, rfl⟩ := Int.eq_ofNat_of_zero_le hp0
      have hbg : b ≠ g := by omega
      by_cases hk : k < n
      · obtain ⟨x, hx, hx0, hx1, hcx⟩ := key k hk
        have HX := Lib.hid hx
        clear key hc hx
        go_enter Tryd.func13, Tryd.ntmps13
        go_wp2
        go_returns
        have h1 : 0 ≤ x % m := Int.emod_nonneg _ (by omega)
        have h2 : x % m < m := Int.emod_lt_of_pos _ (by omega)
        exact ⟨_, _, rfl, ⟨x % m, rfl, h1, fun _ => h2⟩, HD.out, by omega, by omega, HG.out⟩
      · obtain ⟨x, hx, hx0, hx1, hcx⟩ := key (k % n) (Nat.mod_lt _ (by omega))
        obtain ⟨y, hy, hy0, hy1, hcy⟩ := key ((k * 7 + 3) % n) (Nat.mod_lt _ (by omega))
        have HX := Lib.hid hx
        have HY := Lib.hid hy
        clear key hc hx hy
        go_enter Tryd.func13, Tryd.ntmps13
        have i1 : (0 : Int) ≤ (k : Int) % (n : Int) := Int.emod_nonneg _ (by omega)
        have i2 : (k : Int) % (n : Int) < (n : Int) := Int.emod_lt_of_pos _ (by omega)
        have i3 : (0 : Int) ≤ ((k : Int) * 7 + 3) % (n : Int) := Int.emod_nonneg _ (by omega)
        have i4 : ((k : Int) * 7 + 3) % (n : Int) < (n : Int) := Int.emod_lt_of_pos _ (by omega)
        have i5 : (0 : Int) ≤ (k : Int) / (n : Int) := Int.ediv_nonneg (by omega) (by omega)
        have i6 : (k : Int) / (n : Int) ≤ (k : Int) := Int.ediv_le_self _ (by omega)
        have n1 : ((k : Int) % (n : Int)).toNat = k % n := by omega
        have n2 : (((k : Int) * 7 + 3) % (n : Int)).toNat = (k * 7 + 3) % n := by
          rw [show (k : Int) * 7 + 3 = ((k * 7 + 3 : Nat) : Int) from by omega, ← Int.natCast_emod, Int.toNat_natCast]
        go_wp2
        go_quiet (fail)
        clear i1 i2 i3 i4 n1 n2 hcx hcy
        have b1 : 0 ≤ x * 131 + y * 1117 + (k : Int) * 29 + (k : Int) / (n : Int) * 53 := by omega
        have b2 : x * 131 + y * 1117 + (k : Int) * 29 + (k : Int) / (n : Int) * 53 ≤ 1000000000000000 := by omega
        generalize x * 131 + y * 1117 + (k : Int) * 29 + (k : Int) / (n : Int) * 53 = E at b1 b2 ⊢
        have hy3 := i64_xor_nonneg E (E / 64) b1 (by omega) (by omega) (by omega)
        go_wp2
        go_returns
        have h1 : 0 ≤ bits .xor .i64 E (E / 64) % m := Int.emod_nonneg _ (by omega)
        have h2 : bits .xor .i64 E (E / 64) % m < m := Int.emod_lt_of_pos _ (by omega)
        exact ⟨_, _, rfl, ⟨_, rfl, h1, fun _ => h2⟩, HD.out.drewN nq, by omega, by omega, grown_drewN HG.out nq⟩
end Go.Proofs.YtmfienlceobfeaaDoor
