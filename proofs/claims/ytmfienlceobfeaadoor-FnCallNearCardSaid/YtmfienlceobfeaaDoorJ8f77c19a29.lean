/- Parts of laws in one text. Conditions: each lemma's own. -/
import Derived.Test.YtmfienlceobfeaaDoorJe364827809
namespace Go.Proofs.YtmfienlceobfeaaDoor
set_option linter.unusedSimpArgs false
open Go.RowKit
set_option linter.unusedVariables false
set_option linter.unnecessarySimpa false
set_option maxRecDepth 20000
end Go.Proofs.YtmfienlceobfeaaDoor
namespace Go.Proofs.YtmfienlceobfeaaDoor
set_option linter.unusedSimpArgs false
open Go.RowKit
set_option linter.unusedVariables false
set_option linter.unnecessarySimpa false
set_option maxRecDepth 20000
/-- The drawn call, under way: its block C, its words in block b; the result's block; the reader. -/
structure Nr (wo wx : World) (C b c1 g : Nat) (A : Option Addr) (n c : Nat) (xs : List Int) (q num : Int) (ys : List Int) : Prop where
  res : Blk wx (wo.heap.size + 1) 33 [.int .i64 0, .slice none 0 0]
  cal : Blk wx C 33 [.int .i64 num, .slice (some ⟨b, 0, none⟩) 4 c1]
  own : wx.ownsRow (wo.heap.size + 1 + 1) 3 1 (.slice (some ⟨b, 0, none⟩) 4 c1) 4 (ints ys)
  dr : Dr wx g 56 q A n c xs
  n0 : 0 ≤ num
  n1 : num ≤ 4294967295
  rng : ∀ y ∈ ys, 0 ≤ y ∧ y ≤ 4294967295
  gr : wo.grownBy wx (some g)
  lt : C < wx.heap.size
  hC : wo.heap.size + 1 < C
  hg : g < wo.heap.size
  hb : wo.heap.size + 1 < b
  hbC : b < C
section
variable {wo wx w' : World} {C b c1 g : Nat} {A : Option Addr} {n c : Nat} {xs : List Int} {q q' num : Int} {ys : List Int}
theorem Nr.pick (h : Nr wo wx C b c1 g A n c xs q num ys) (k : wx.grownBy w' (some g)) (d : Dr w' g 56 q' A n c xs) : Nr wo w' C b c1 g A n c xs q' num ys :=
  ⟨h.res.other k (by have := h.hg; simp; omega), h.cal.other k (by have := h.hg; have := h.hC; simp; omega), own_gr h.own k (by have := h.hg; omega), d, h.n0, h.n1, h.rng, gr_via h.gr k, Nat.lt_of_lt_of_le h.lt k.size, h.hC, h.hg, h.hb, h.hbC⟩
theorem Nr.alloc (h : Nr wo wx C b c1 g A n c xs q num ys) (o : Obj) : Nr wo (wx.alloc o) C b c1 g A n c xs q num ys :=
  h.pick (gr_alloc (gr_refl _ _) o) (h.dr.upto (Below.alloc (Below.refl _ _) (Nat.le_refl _) o))
theorem Nr.drew (h : Nr wo wx C b c1 g A n c xs q num ys) : Nr wo wx.drew C b c1 g A n c xs q num ys := h.pick (gr_drew (gr_refl _ _)) (h.dr.drewN 1)
theorem Nr.far (h : Nr wo wx C b c1 g A n c xs q num ys) {X o : Nat} (hX : C < X) (u : Value) : Nr wo (wx.setCell ⟨X, o, none⟩ u) C b c1 g A n c xs q num ys := by
  have h1 := h.hg; have h2 := h.hb; have h3 := h.hbC; have h4 := h.hC
  exact ⟨h.res.far (by simp; omega) _, h.cal.far (by simp; omega) _, (Keep.set_ (Keep.refl wx (fun t => t < X)) u (fun t ht _ e => by omega)).own h.own (fun t ht => by have := ob_of ht; omega), h.dr.far (by simp; omega) _, h.n0, h.n1, h.rng, gr_set h.gr (.inr (by simp; omega)) _, by simpa using h.lt, h4, h1, h2, h3⟩
theorem Nr.setNum (h : Nr wo wx C b c1 g A n c xs q num ys) {v : Int} (h0 : 0 ≤ v) (h9 : v ≤ 4294967295) : Nr wo (wx.setCell ⟨C, 0, none⟩ (.int .i64 v)) C b c1 g A n c xs q v ys := by
  have h1 := h.hg; have h2 := h.hb; have h3 := h.hbC; have h4 := h.hC
  exact ⟨h.res.far (by simp; omega) _, h.cal.set_ 0 _, (Keep.set_ (Keep.refl wx (fun t => t ≠ C)) _ (fun t ht _ e => ht e.symm)).own h.own (fun t ht => by have := ob_of ht; omega), h.dr.far (by simp; omega) _, h0, h9, h.rng, gr_set h.gr (.inr (by simp; omega)) _, by simpa using h.lt, h4, h1, h2, h3⟩
theorem Nr.setArg (h : Nr wo wx C b c1 g A n c xs q num ys) (k : Nat) {v : Int} (h0 : 0 ≤ v) (h9 : v ≤ 4294967295) : Nr wo (wx.setCell ⟨b, k, none⟩ (.int .i64 v)) C b c1 g A n c xs q num (ys.set k v) := by
  have h1 := h.hg; have h2 := h.hb; have h3 := h.hbC; have h4 := h.hC
  have hs := (h.own.stored k (.int .i64 v)).1
  refine ⟨h.res.far (by simp; omega) _, h.cal.far (by simp; omega) _, by simpa [ints] using hs, h.dr.far (by simp; omega) _, h.n0, h.n1, fun y hy => ?_, gr_set h.gr (.inr (by simp; omega)) _, by simpa using h.lt, h4, h1, h2, h3⟩
  rcases List.mem_or_eq_of_mem_set hy with hy | rfl
  · exact h.rng y hy
  · exact ⟨h0, h9⟩
theorem Nr.arg (h : Nr wo wx C b c1 g A n c xs q num ys) {k : Nat} (hk : k < 4) : (∃ x, wx.cell? ⟨b, k, none⟩ = some (.int .i64 x)) ∧ wx.frozen? ⟨b, k, none⟩ = false := (Ow.of_own h.own).cellAt0 k hk
end
theorem RdR.rlAt {w : World} {B b off n k : Nat} {rs : List Rl} (h : RdR w B (some ⟨b, off, none⟩) n rs) (hk : k < n) : ∃ r, rs[k]? = some r ∧ b < B ∧ RlAt w B b (off + k * 4) r := by
  obtain ⟨b', off', r, e, hb, hr, ha⟩ := h.rl hk
  injection e with e; injection e with e1 e2; subst e1 e2
  exact ⟨r, hr, hb, ha⟩
/-- Rule r lies at b, o, its tests at TA, in world w'. -/
def RlV (w' : World) (b o : Nat) (r : Rl) (TA : Option Addr) (tc : Nat) : Prop := b < w'.heap.size ∧ w'.cell? ⟨b, o, none⟩ = some (.int .i64 r.v) ∧ w'.cell? ⟨b, o + 1, none⟩ = some (.int .i64 r.lo) ∧ w'.cell? ⟨b, o + 2, none⟩ = some (.int .i64 r.hi) ∧ w'.cell? ⟨b, o + 3, none⟩ = some (.slice TA r.ts.length tc) ∧ Rd w' w'.heap.size 4 TA r.ts.length (tsts r.ts)
/-- Rules that read so, whatever is written into block g or into new ones. -/
def RdV (w : World) (g : Nat) (PA : Option Addr) (pn : Nat) (rs : List Rl) : Prop := rs.length = pn ∧ (0 < pn → ∃ b off, PA = some ⟨b, off, none⟩ ∧ ∀ j r, rs[j]? = some r → ∃ (TA : Option Addr) (tc : Nat), ∀ w', w.grownBy w' (some g) → RlV w' b (off + j * 4) r TA tc)
theorem RdV.of_op {w : World} {lo hi ER ET n c g : Nat} {A : Option Addr} {qs : List (Rl × Value)} (h : OP w lo hi ER ET A n c qs) (hg : g < lo) : RdV w g A n (rls qs) := by
  refine ⟨by rw [rls_len]; exact h.len, fun hn => ?_⟩
  obtain ⟨gr, q0, _, _, rfl, hlo, _, hgs, _⟩ := h.at_ (k := 0) hn
  refine ⟨gr, 0, rfl, fun j r hj => ?_⟩
  obtain ⟨q, hq, rfl⟩ : ∃ q, qs[j]? = some q ∧ q.1 = r := by
    simp only [rls, List.getElem?_map, Option.map_eq_some_iff] at hj
    exact hj
  obtain ⟨TA, tc, htv⟩ := own_slice (h.tst q (List.mem_of_getElem? hq)).own
  refine ⟨TA, tc, fun w' k => ?_⟩
  have h' := h.gr k hg
  obtain ⟨c0, c1, c2, c3, _⟩ := h'.four hq
  have ho := (h'.tst q (List.mem_of_getElem? hq)).own
  rw [htv] at c3 ho
  rw [Nat.zero_add]
  exact ⟨Nat.lt_of_lt_of_le hgs k.size, c0, c1, c2, c3, Rd.of_own ho⟩
theorem RdV.of_rd {w : World} {n g : Nat} {A : Option Addr} {rs : List Rl} (h : RdR w g A n rs) (hg : g < w.heap.size) : RdV w g A n rs := by
  refine ⟨h.1, fun hn => ?_⟩
  obtain ⟨b, off, rfl, hb, hc⟩ := h.2 hn
  refine ⟨b, off, rfl, fun j r hj => ?_⟩
  obtain ⟨TA, tc, c0, c1, c2, c3, c4, _⟩ := hc j r hj
  refine ⟨TA, tc, fun w' k => ?_⟩
  have hB : Below g w w' := gr_below k (Nat.le_refl _) (by omega)
  have key : ∀ o, w'.cell? ⟨b, o, none⟩ = w.cell? ⟨b, o, none⟩ := fun o => hB.cell (p := ⟨b, o, none⟩) hb
  exact ⟨by have := k.size; omega, (key _).trans c0, (key _).trans c1, (key _).trans c2, (key _).trans c3, (c4.below hB).more (by have := k.size; omega)⟩
theorem or_word (a b : Int) (h0 : 0 ≤ a) (ha : a ≤ 4294967295) (h1 : 0 ≤ b) (hb : b ≤ 4294967295) : 0 ≤ bits .or .i64 a b ∧ bits .or .i64 a b ≤ 4294967295 := by
  obtain ⟨a, rfl⟩ := Int.eq_ofNat_of_zero_le h0
  obtain ⟨b, rfl⟩ := Int.eq_ofNat_of_zero_le h1
  have hx : a ||| b < 2 ^ 32 := Nat.or_lt_two_pow (by omega) (by omega)
  have e : bits .or .i64 (a : Int) (b : Int) = ((a ||| b : Nat) : Int) := by
    show IntKind.i64.wrap ((BitVec.ofInt 64 (a : Int) ||| BitVec.ofInt 64 (b : Int)).toNat : Int) = _
    rw [BitVec.toNat_or, ofInt_i64 a (by omega), ofInt_i64 b (by omega), IntKind.wrap_i64]
    omega
  rw [e]
  omega
theorem callB_out {num : Int} {ys : List Int} (h : callB num ys = true) : (0 ≤ num ∧ num ≤ 4294967295) ∧ ys.length = 4 ∧ ∀ y ∈ ys, 0 ≤ y ∧ y ≤ 4294967295 := by
  simp only [callB, wordB, Bool.and_eq_true, decide_eq_true_eq, beq_iff_eq, List.all_eq_true] at h
  exact ⟨h.1.1, h.1.2, h.2⟩
end Go.Proofs.YtmfienlceobfeaaDoor
