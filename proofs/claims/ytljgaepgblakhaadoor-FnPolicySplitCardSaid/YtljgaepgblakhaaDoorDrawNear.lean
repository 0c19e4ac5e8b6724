/- A drawn call near what a policy looks at. Conditions: each contract's own. -/
import Derived.Test.YtljgaepgblakhaaDoorDrawAny
namespace Go.Proofs.YtljgaepgblakhaaDoor
set_option linter.unusedSimpArgs false
open Go.RowKit
set_option linter.unusedVariables false
set_option linter.unnecessarySimpa false
set_option maxRecDepth 20000
/-- The drawn call, under way: its block C, its words in block b; the result's block; the reader. -/
structure Nr (wo wx : World) (C b c1 g : Nat) (A : Option Addr) (n c : Nat) (xs : List Int) (q num : Int) (ys : List Int) : Prop where
  res : Blk wx (wo.heap.size + 1) 28 [.int .i64 0, .slice none 0 0]
  cal : Blk wx C 28 [.int .i64 num, .slice (some ⟨b, 0, none⟩) 4 c1]
  own : wx.ownsRow (wo.heap.size + 1 + 1) 3 1 (.slice (some ⟨b, 0, none⟩) 4 c1) 4 (ints ys)
  dr : Dr wx g 122 q A n c xs
  n0 : 0 ≤ num
  n1 : num ≤ 4294967295
  rng : ∀ y ∈ ys, 0 ≤ y ∧ y ≤ 4294967295
  gr : wo.grownBy wx (some g)
  lt : C < wx.heap.size
  hC : wo.heap.size + 1 < C
  hg : g < wo.heap.size
  hb : wo.heap.size + 1 < b
  hbC : b < C
section
variable {wo wx w' : World} {C b c1 g : Nat} {A : Option Addr} {n c : Nat} {xs : List Int} {q q' num : Int} {ys : List Int}
theorem Nr.pick (h : Nr wo wx C b c1 g A n c xs q num ys) (k : wx.grownBy w' (some g)) (d : Dr w' g 122 q' A n c xs) : Nr wo w' C b c1 g A n c xs q' num ys :=
  ⟨h.res.other k (by have := h.hg; simp; omega), h.cal.other k (by have := h.hg; have := h.hC; simp; omega), own_gr h.own k (by have := h.hg; omega), d, h.n0, h.n1, h.rng, gr_via h.gr k, Nat.lt_of_lt_of_le h.lt k.size, h.hC, h.hg, h.hb, h.hbC⟩
theorem Nr.alloc (h : Nr wo wx C b c1 g A n c xs q num ys) (o : Obj) : Nr wo (wx.alloc o) C b c1 g A n c xs q num ys :=
  h.pick (gr_alloc (gr_refl _ _) o) (h.dr.upto (Below.alloc (Below.refl _ _) (Nat.le_refl _) o))
theorem Nr.drew (h : Nr wo wx C b c1 g A n c xs q num ys) : Nr wo wx.drew C b c1 g A n c xs q num ys := h.pick (gr_drew (gr_refl _ _)) (h.dr.drewN 1)
theorem Nr.far (h : Nr wo wx C b c1 g A n c xs q num ys) {X o : Nat} (hX : C < X) (u : Value) : Nr wo (wx.setCell ⟨X, o, none⟩ u) C b c1 g A n c xs q num ys := by
  have h1 := h.hg; have h2 := h.hb; have h3 := h.hbC; have h4 := h.hC
  exact ⟨h.res.far (by simp; omega) _, h.cal.far (by simp; omega) _, (Keep.set_ (Keep.refl wx (fun t => t < X)) u (fun t ht _ e => by omega)).own h.own (fun t ht => by have := ob_of ht; omega), h.dr.far (by simp; omega) _, h.n0, h.n1, h.rng, gr_set h.gr (.inr (by simp; omega)) _, by simpa using h.lt, h4, h1, h2, h3⟩
theorem Nr.setNum (h : Nr wo wx C b c1 g A n c xs q num ys) {v : Int} (h0 : 0 ≤ v) (h9 : v ≤ 4294967295) : Nr wo (wx.setCell ⟨C, 0, none⟩ (.int .i64 v)) C b c1 g A n c xs q v ys := by
  have h1 := h.hg; have h2 := h.hb; have h3 := h.hbC; have h4 := h.hC
  exact ⟨h.res.far (by simp; omega) _, h.cal.set_ 0 _, (Keep.set_ (Keep.refl wx (fun t => t ≠ C)) _ (fun t ht _ e => ht e.symm)).own h.own (fun t ht => by have := ob_of ht; omega), h.dr.far (by simp; omega) _, h0, h9, h.rng, gr_set h.gr (.inr (by simp; omega)) _, by simpa using h.lt, h4, h1, h2, h3⟩
theorem Nr.setArg (h : Nr wo wx C b c1 g A n c xs q num ys) (k : Nat) {v : Int} (h0 : 0 ≤ v) (h9 : v ≤ 4294967295) : Nr wo (wx.setCell ⟨b, k, none⟩ (.int .i64 v)) C b c1 g A n c xs q num (ys.set k v) := by
  have h1 := h.hg; have h2 := h.hb; have h3 := h.hbC; have h4 := h.hC
  have hs := (h.own.stored k (.int .i64 v)).1
  refine ⟨h.res.far (by simp; omega) _, h.cal.far (by simp; omega) _, by simpa [ints] using hs, h.dr.far (by simp; omega) _, h.n0, h.n1, fun y hy => ?_, gr_set h.gr (.inr (by simp; omega)) _, by simpa using h.lt, h4, h1, h2, h3⟩
  rcases List.mem_or_eq_of_mem_set hy with hy | rfl
  · exact h.rng y hy
  · exact ⟨h0, h9⟩
theorem Nr.arg (h : Nr wo wx C b c1 g A n c xs q num ys) {k : Nat} (hk : k < 4) : (∃ x, wx.cell? ⟨b, k, none⟩ = some (.int .i64 x)) ∧ wx.frozen? ⟨b, k, none⟩ = false := (Ow.of_own h.own).cellAt0 k hk
end
theorem RdR.rlAt {w : World} {B b off n k : Nat} {rs : List Rl} (h : RdR w B (some ⟨b, off, none⟩) n rs) (hk : k < n) : ∃ r, rs[k]? = some r ∧ b < B ∧ RlAt w B b (off + k * 4) r := by
  obtain ⟨b', off', r, e, hb, hr, ha⟩ := h.rl hk
  injection e with e; injection e with e1 e2; subst e1 e2
  exact ⟨r, hr, hb, ha⟩
/-- Rule r lies at b, o, its tests at TA, in world w'. -/
def RlV (w' : World) (b o : Nat) (r : Rl) (TA : Option Addr) (tc : Nat) : Prop := b < w'.heap.size ∧ w'.cell? ⟨b, o, none⟩ = some (.int .i64 r.v) ∧ w'.cell? ⟨b, o + 1, none⟩ = some (.int .i64 r.lo) ∧ w'.cell? ⟨b, o + 2, none⟩ = some (.int .i64 r.hi) ∧ w'.cell? ⟨b, o + 3, none⟩ = some (.slice TA r.ts.length tc) ∧ Rd w' w'.heap.size 4 TA r.ts.length (tsts r.ts)
/-- Rules that read so, whatever is written into block g or into new ones. -/
def RdV (w : World) (g : Nat) (PA : Option Addr) (pn : Nat) (rs : List Rl) : Prop := rs.length = pn ∧ (0 < pn → ∃ b off, PA = some ⟨b, off, none⟩ ∧ ∀ j r, rs[j]? = some r → ∃ (TA : Option Addr) (tc : Nat), ∀ w', w.grownBy w' (some g) → RlV w' b (off + j * 4) r TA tc)
theorem RdV.of_op {w : World} {lo hi ER ET n c g : Nat} {A : Option Addr} {qs : List (Rl × Value)} (h : OP w lo hi ER ET A n c qs) (hg : g < lo) : RdV w g A n (rls qs) := by
  refine ⟨by rw [rls_len]; exact h.len, fun hn => ?_⟩
  obtain ⟨gr, q0, _, _, rfl, hlo, _, hgs, _⟩ := h.at_ (k := 0) hn
  refine ⟨gr, 0, rfl, fun j r hj => ?_⟩
  obtain ⟨q, hq, rfl⟩ : ∃ q, qs[j]? = some q ∧ q.1 = r := by
    simp only [rls, List.getElem?_map, Option.map_eq_some_iff] at hj
    exact hj
  obtain ⟨TA, tc, htv⟩ := own_slice (h.tst q (List.mem_of_getElem? hq)).own
  refine ⟨TA, tc, fun w' k => ?_⟩
  have h' := h.gr k hg
  obtain ⟨c0, c1, c2, c3, _⟩ := h'.four hq
  have ho := (h'.tst q (List.mem_of_getElem? hq)).own
  rw [htv] at c3 ho
  rw [Nat.zero_add]
  exact ⟨Nat.lt_of_lt_of_le hgs k.size, c0, c1, c2, c3, Rd.of_own ho⟩
theorem RdV.of_rd {w : World} {n g : Nat} {A : Option Addr} {rs : List Rl} (h : RdR w g A n rs) (hg : g < w.heap.size) : RdV w g A n rs := by
  refine ⟨h.1, fun hn => ?_⟩
  obtain ⟨b, off, rfl, hb, hc⟩ := h.2 hn
  refine ⟨b, off, rfl, fun j r hj => ?_⟩
  obtain ⟨TA, tc, c0, c1, c2, c3, c4, _⟩ := hc j r hj
  refine ⟨TA, tc, fun w' k => ?_⟩
  have hB : Below g w w' := gr_below k (Nat.le_refl _) (by omega)
  have key : ∀ o, w'.cell? ⟨b, o, none⟩ = w.cell? ⟨b, o, none⟩ := fun o => hB.cell (p := ⟨b, o, none⟩) hb
  exact ⟨by have := k.size; omega, (key _).trans c0, (key _).trans c1, (key _).trans c2, (key _).trans c3, (c4.below hB).more (by have := k.size; omega)⟩
theorem or_word (a b : Int) (h0 : 0 ≤ a) (ha : a ≤ 4294967295) (h1 : 0 ≤ b) (hb : b ≤ 4294967295) : 0 ≤ bits .or .i64 a b ∧ bits .or .i64 a b ≤ 4294967295 := by
  obtain ⟨a, rfl⟩ := Int.eq_ofNat_of_zero_le h0
  obtain ⟨b, rfl⟩ := Int.eq_ofNat_of_zero_le h1
  have hx : a ||| b < 2 ^ 32 := Nat.or_lt_two_pow (by omega) (by omega)
  have e : bits .or .i64 (a : Int) (b : Int) = ((a ||| b : Nat) : Int) := by
    show IntKind.i64.wrap ((BitVec.ofInt 64 (a : Int) ||| BitVec.ofInt 64 (b : Int)).toNat : Int) = _
    rw [BitVec.toNat_or, ofInt_i64 a (by omega), ofInt_i64 b (by omega), IntKind.wrap_i64]
    omega
  rw [e]
  omega
theorem callB_out {num : Int} {ys : List Int} (h : callB num ys = true) : (0 ≤ num ∧ num ≤ 4294967295) ∧ ys.length = 4 ∧ ∀ y ∈ ys, 0 ≤ y ∧ y ≤ 4294967295 := by
  simp only [callB, wordB, Bool.and_eq_true, decide_eq_true_eq, beq_iff_eq, List.all_eq_true] at h
  exact ⟨h.1.1, h.1.2, h.2⟩
set_option maxHeartbeats 4000000 in
set_option maxRecDepth 100000 in
theorem near_c (g : Nat) (p : Int) (A : Option Addr) (n c : Nat) (xs : List Int) (PA : Option Addr) (pn pc : Nat) (rs : List Rl) (e : Int) (w : World) (h : Dr w g 122 p A n c xs) (hp : p ≤ 1099511570000)
    (hr : RdV w g PA pn rs) (hn : pn ≤ 9) (hts : ∀ r ∈ rs, r.ts.length ≤ 10) :
    Calls Tryd.prog 65 #[.pointer (some ⟨g, 0, none⟩), .agg #[.slice PA pn pc, .int .i64 e]] w (RetDraw (CallIs 3 w.heap.size 4) g 122 p 200 A n c xs w) := by
  have hlow := h.low
  have hgl := h.blk.lt
  have D0 := Lib.hid h
  have HR := Lib.hid hr
  have HT := Lib.hid hts
  have hB2 := blk_two w 25 28 [.slice PA pn pc, .int .i64 e] [.int .i64 0, .slice none 0 0]
  have HP := Lib.hid hB2.1
  have HS := Lib.hid hB2.2
  clear h hr hts hB2
  go_enter Tryd.func65, Tryd.ntmps65
  (go_wp2_with fail); (go_at_call 108; refine (drawCall_c g _ A n c xs _ (D0.out.upto (by go_grown)) (by omega)).mono ?_; rintro e w1 ⟨_, q1, rfl, ⟨num, A1, c1, ys, rfl, hown1, hcb⟩, d1, e1, f1, g1⟩; have P1 := Lib.hid (HP.out.other g1 (by simp; omega)); have S1 := Lib.hid (HS.out.other g1 (by simp; omega)); simp only [World.size_alloc] at hown1; have hs1 := g1.size; simp at hs1; have G1 := Lib.hid (gr_via (gr_alloc (gr_alloc (gr_refl w g) _) _) g1); have D1 := Lib.hid d1; have HCB := Lib.hid (callB_out hcb); clear HP HS d1 g1 hcb)
  obtain ⟨b, rfl, hb0, hb1⟩ : ∃ b, A1 = some ⟨b, 0, none⟩ ∧ w.heap.size + 1 + 1 ≤ b ∧ b < w1.heap.size := by
    rcases hown1.2 with ⟨_, h0⟩ | ⟨b, cap, cur, hv, hB, hg, hcap, _⟩
    · omega
    · injection hv with hv1 _ hv2
      exact ⟨b, hv1, hB, (Array.getElem?_eq_some_iff.1 hg).1⟩
  have HN : Hid (Nr w (w1.alloc (.cells #[.int .i64 num, .slice (some ⟨b, 0, none⟩) 4 c1] 28)) w1.heap.size b c1 g A n c xs q1 num ys) :=
    Lib.hid ⟨S1.out.alloc _, Blk.new w1 28 [.int .i64 num, .slice (some ⟨b, 0, none⟩) 4 c1], own_up hown1 (Below.alloc (Below.refl _ _) (Nat.le_refl _) _), D1.out.upto (Below.alloc (Below.refl _ _) (Nat.le_refl _) _), HCB.out.1.1, HCB.out.1.2, HCB.out.2.2, gr_alloc G1.out _, by simp, by omega, hgl, by omega, hb1⟩
  have HLY := Lib.hid HCB.out.2.1
  have P1' := Lib.hid (P1.out.alloc (.cells #[.int .i64 num, .slice (some ⟨b, 0, none⟩) 4 c1] 28))
  clear hown1 HCB P1 S1 G1 D1
  have pc0 := P1'.out.cell (i := 0) rfl
  have nwc : w.heap.size + 1 ≠ w1.heap.size := by omega
  have nwc' : w1.heap.size ≠ w.heap.size + 1 := by omega
  by_cases hz : pn = 0
  · have hz' : ((pn : Int) == 0) = true := by rw [hz]; rfl
    clear hz
    have k0 := HN.out.cal.cell (i := 0) rfl
    have k1 := HN.out.cal.cell (i := 1) rfl
    have r0 := HN.out.res.cell (i := 0) rfl
    have r1 := HN.out.res.cell (i := 1) rfl
    have rf := HN.out.res.free
    go_wp2
    refine bodyPost_ret (v := .agg #[.int .i64 num, .slice (some ⟨b, 0, none⟩) 4 c1]) (by simp [results, Tryd.results65, go_sem, r0, r1, nwc, nwc']) rfl ?_
    go_light
    have hN := HN.out
    exact ⟨_, q1, rfl, ⟨num, _, c1, ys, rfl, own_base (ownsRow_setCell_below (ownsRow_setCell_below hN.own (a := ⟨w.heap.size + 1, 0, none⟩) (by simp) (.int .i64 num)) (a := ⟨w.heap.size + 1, 1, none⟩) (by simp) (.slice (some ⟨b, 0, none⟩) 4 c1)) (by omega), callB_of hN.n0 hN.n1 HLY.out hN.rng⟩, (hN.dr.far (by simp; omega) _).far (by simp; omega) _, by omega, by omega, gr_set (gr_set hN.gr (.inr (by simp)) _) (.inr (by simp)) _⟩
  · have hz' : ((pn : Int) == 0) = false := by rw [beq_eq_false_iff_ne]; omega
    have hpn : 0 < pn := by omega
    obtain ⟨b0, off0, rfl, hv⟩ := HR.out.2 hpn
    have HV := Lib.hid hv
    have hrl := HR.out.1
    clear hz hv
    go_upto_region 4 with (fail)
    go_cut [6] (fun v6 wx => ∃ (X : Nat) (r : Rl) (TA : Option Addr) (tc : Nat) (q : Int), v6 = .pointer (some ⟨X, 0, none⟩) ∧ Hid (Nr w wx w1.heap.size b c1 g A n c xs q num ys) ∧ Hid (Blk wx X 35 [.int .i64 r.v, .int .i64 r.lo, .int .i64 r.hi, .slice TA r.ts.length tc]) ∧ Hid (∀ w', w.grownBy w' (some g) → Rd w' w'.heap.size 4 TA r.ts.length (tsts r.ts)) ∧ r.ts.length ≤ 10 ∧ w1.heap.size < X ∧ X < wx.heap.size ∧ q1 ≤ q ∧ q ≤ q1 + 1)
    case first =>
      have zbx : w.heap.size ≠ w1.heap.size := by omega
      have zbx' : w.heap.size < w1.heap.size := by omega
      refine wp_region_held_drew (S := (fun w' => w'.cell? ⟨w.heap.size, 0, none⟩ = some (.slice (some ⟨b0, off0, none⟩) pn pc))) (by kernel_rfl) ?_ (fun hHeld => ?_)
      · ((try dsimp only); (simp [go_sem, *]))
      refine wpAnyH_take (i := 0) (oi := _) (v := ?_) rfl (by kernel_rfl) (by kernel_rfl) (by kernel_rfl) (fun _ _ _ h => h) (Or.inl ⟨by rfl, ?_⟩) (by assumption) ?_
      rotate_left
      · (intro w hSw; (try dsimp only at hSw); go_simp; (try with_reducible rfl))
      (try simp only [Act.put, List.setIfInBounds_toArray, List.set_cons_zero, List.set_cons_succ])
      refine wpAnyH_take (i := 1) (oi := _) (v := ?_) rfl (by kernel_rfl) (by kernel_rfl) (by kernel_rfl) (fun _ _ _ h => h) (Or.inl ⟨by rfl, ?_⟩) (by assumption) ?_
      rotate_left
      · (intro w hSw; (try dsimp only at hSw); go_simp; (try with_reducible rfl))
      (try simp only [Act.put, List.setIfInBounds_toArray, List.set_cons_zero, List.set_cons_succ])
      refine wpAnyH_take (i := 2) (oi := _) (v := ?_) rfl (by kernel_rfl) (by kernel_rfl) (by kernel_rfl) (fun _ _ _ h => h) (Or.inl ⟨by rfl, ?_⟩) (by assumption) ?_
      rotate_left
      · (intro w hSw; (try dsimp only at hSw); go_simp; (try with_reducible rfl))
      (try simp only [Act.put, List.setIfInBounds_toArray, List.set_cons_zero, List.set_cons_succ])
      refine wpAnyH_take (i := 3) (oi := _) (v := ?_) rfl (by kernel_rfl) (by kernel_rfl) (by kernel_rfl) (fun _ _ _ h => h) (Or.inl ⟨by rfl, ?_⟩) (by assumption) ?_
      rotate_left
      · (intro w hSw; (try dsimp only at hSw); go_simp; (try with_reducible rfl))
      (try simp only [Act.put, List.setIfInBounds_toArray, List.set_cons_zero, List.set_cons_succ])
      refine wpAnyH_take (i := 4) (oi := _) (v := ?_) rfl (by kernel_rfl) (by kernel_rfl) (by kernel_rfl) (fun _ _ _ h => h) (Or.inl ⟨by rfl, ?_⟩) (by assumption) ?_
      rotate_left
      · (intro w hSw; (try dsimp only at hSw); go_simp; (try with_reducible rfl))
      (try simp only [Act.put, List.setIfInBounds_toArray, List.set_cons_zero, List.set_cons_succ])
      refine wpAnyH_take (i := 5) (oi := _) (v := ?_) rfl (by kernel_rfl) (by kernel_rfl) (by kernel_rfl) (fun _ _ _ h => h) (Or.inl ⟨by rfl, ?_⟩) (by assumption) ?_
      rotate_left
      · (intro w hSw; (try dsimp only at hSw); go_simp; (try with_reducible rfl))
      (try simp only [Act.put, List.setIfInBounds_toArray, List.set_cons_zero, List.set_cons_succ])
      refine wpAnyH_ready (rs := [6, 9]) (by kernel_rfl) (by simp) ?_
      refine AllReadyH.cons (o := _) rfl (fun K hK => ?_) ?_
      · go_simp
        ((go_at_call 63; refine (pick_c g _ _ A n c xs _ (HN.out.dr.upto (by go_grown)) (by omega)).mono ?_; rintro e w2 ⟨_, q2, rfl, ⟨x2, rfl, l2, u2⟩, d2, e2, f2, g2⟩; have v2 := u2 (by omega); clear u2; obtain ⟨k, rfl⟩ := Int.eq_ofNat_of_zero_le l2; have k2 := Lib.hid (gr_via (w := w1.alloc (.cells #[.int .i64 num, .slice (some ⟨b, 0, none⟩) 4 c1] 28)) (by (repeat' (first | exact gr_refl _ _ | (with_reducible assumption) | exact Hid.out (by assumption) | refine gr_drew ?_ | refine gr_drewN ?_ _ | refine gr_alloc ?_ _ | refine gr_set ?_ ?_ _ | omega | (simp; omega)))) g2); have N2 := Lib.hid (HN.out.pick k2.out d2); have P2 := Lib.hid (P1'.out.other k2.out (by simp; omega)); have pc2 := P2.out.cell (i := 0) rfl; obtain ⟨r, hr⟩ := some_at hrl (show k < pn by omega); obtain ⟨TA, tc, hv⟩ := HV.out k r hr; obtain ⟨rb, c0, c1', c2, c3, _⟩ := hv w2 N2.out.gr; have HVV := Lib.hid hv; have HTT := Lib.hid (HT.out r (List.mem_of_getElem? hr)); clear hv hr; have hs2 := k2.out.size; simp at hs2; have hs2' := g2.size; (try simp at hs2'); have zz : w.heap.size < w2.heap.size := (by omega); have zz' : w.heap.size ≠ w2.heap.size := (by omega); have zb : b0 ≠ w2.heap.size := (by omega); (first | (have XB := Lib.hid ((Blk.new (w1.alloc (.cells #[.int .i64 num, .slice (some ⟨b, 0, none⟩) 4 c1] 28)) 35 [.int .i64 0, .int .i64 0, .int .i64 0, .slice none 0 0]).drew.other g2 (by simp; omega)); simp only [World.size_alloc] at XB; have xb0 := XB.out.cell (i := 0) rfl; have xb1 := XB.out.cell (i := 1) rfl; have xb2 := XB.out.cell (i := 2) rfl; have xb3 := XB.out.cell (i := 3) rfl; have xbf := XB.out.free) | skip)))
        (try go_wp2_with fail)
        refine hK.out _ _ ?_ (fun hHeld => ?_)
        · ((try dsimp only); (simp [go_sem, *]))
        clear hK K
        (try simp only [Act.put, List.setIfInBounds_toArray, List.set_cons_zero, List.set_cons_succ])
        refine wpAnyH_take (i := 7) (oi := _) (v := ?_) rfl (by kernel_rfl) (by kernel_rfl) (by kernel_rfl) (fun _ _ _ h => h) (Or.inl ⟨by rfl, ?_⟩) (by assumption) ?_
        rotate_left
        · (intro w hSw; (try dsimp only at hSw); go_simp; (try with_reducible rfl))
        (try simp only [Act.put, List.setIfInBounds_toArray, List.set_cons_zero, List.set_cons_succ])
        refine wpAnyH_ready (rs := [8, 9]) (by kernel_rfl) (by simp) ?_
        refine AllReadyH.cons (o := _) rfl (fun K hK => ?_) ?_
        · go_simp
          refine hK.out _ _ ?_ (fun hHeld => ?_)
          · ((try dsimp only); (simp [go_sem, *]))
          clear hK K
          (try simp only [Act.put, List.setIfInBounds_toArray, List.set_cons_zero, List.set_cons_succ])
          refine wpAnyH_ready (rs := [9]) (by kernel_rfl) (by simp) ?_
          refine AllReadyH.cons (o := _) rfl (fun K hK => ?_) AllReadyH.nil
          go_simp
          refine hK.out _ _ ?_ (fun hHeld => ?_)
          · ((try dsimp only); (simp [go_sem, *]))
          clear hK K
          (try simp only [Act.put, List.setIfInBounds_toArray, List.set_cons_zero, List.set_cons_succ])
          refine wpAnyH_ready (rs := [10]) (by kernel_rfl) (by simp) ?_
          refine AllReadyH.cons (o := _) rfl (fun K hK => ?_) AllReadyH.nil
          go_simp
          refine hK.out _ _ ?_ (fun hHeld => ?_)
          · ((try dsimp only); (simp [go_sem, *]))
          clear hK K
          (try simp only [Act.put, List.setIfInBounds_toArray, List.set_cons_zero, List.set_cons_succ])
          refine wpAnyH_done (by kernel_rfl) ?_ _
          (go_wp2_with fail; go_meet; (first | exact ⟨w2.heap.size, r, TA, tc, q2, rfl, N2.out.alloc _, Blk.new w2 35 [.int .i64 r.v, .int .i64 r.lo, .int .i64 r.hi, .slice TA r.ts.length tc], (fun w' k => (HVV.out w' k).2.2.2.2.2), HTT.out, by omega, by simp, by omega, by omega⟩ | exact ⟨w1.heap.size + 1, r, TA, tc, q2, rfl, (((N2.out.far (by omega) _).far (by omega) _).far (by omega) _).far (by omega) _, (((XB.out.set_ 0 (.int .i64 r.v)).set_ 1 (.int .i64 r.lo)).set_ 2 (.int .i64 r.hi)).set_ 3 (.slice TA r.ts.length tc), (fun w' k => (HVV.out w' k).2.2.2.2.2), HTT.out, by omega, by simp; omega, by omega, by omega⟩))
        refine AllReadyH.cons (o := _) rfl (fun K hK => ?_) ?_
        · go_simp
          refine hK.out _ _ ?_ (fun hHeld => ?_)
          · ((try dsimp only); (simp [go_sem, *]))
          clear hK K
          (try simp only [Act.put, List.setIfInBounds_toArray, List.set_cons_zero, List.set_cons_succ])
          refine wpAnyH_ready (rs := [8]) (by kernel_rfl) (by simp) ?_
          refine AllReadyH.cons (o := _) rfl (fun K hK => ?_) AllReadyH.nil
          go_simp
          refine hK.out _ _ ?_ (fun hHeld => ?_)
          · ((try dsimp only); (simp [go_sem, *]))
          clear hK K
          (try simp only [Act.put, List.setIfInBounds_toArray, List.set_cons_zero, List.set_cons_succ])
          refine wpAnyH_ready (rs := [10]) (by kernel_rfl) (by simp) ?_
          refine AllReadyH.cons (o := _) rfl (fun K hK => ?_) AllReadyH.nil
          go_simp
          refine hK.out _ _ ?_ (fun hHeld => ?_)
          · ((try dsimp only); (simp [go_sem, *]))
          clear hK K
          (try simp only [Act.put, List.setIfInBounds_toArray, List.set_cons_zero, List.set_cons_succ])
          refine wpAnyH_done (by kernel_rfl) ?_ _
          (go_wp2_with fail; go_meet; (first | exact ⟨w2.heap.size, r, TA, tc, q2, rfl, N2.out.alloc _, Blk.new w2 35 [.int .i64 r.v, .int .i64 r.lo, .int .i64 r.hi, .slice TA r.ts.length tc], (fun w' k => (HVV.out w' k).2.2.2.2.2), HTT.out, by omega, by simp, by omega, by omega⟩ | exact ⟨w1.heap.size + 1, r, TA, tc, q2, rfl, (((N2.out.far (by omega) _).far (by omega) _).far (by omega) _).far (by omega) _, (((XB.out.set_ 0 (.int .i64 r.v)).set_ 1 (.int .i64 r.lo)).set_ 2 (.int .i64 r.hi)).set_ 3 (.slice TA r.ts.length tc), (fun w' k => (HVV.out w' k).2.2.2.2.2), HTT.out, by omega, by simp; omega, by omega, by omega⟩))
        exact AllReadyH.nil
      refine AllReadyH.cons (o := _) rfl (fun K hK => ?_) ?_
      · go_simp
        refine hK.out _ _ ?_ (fun hHeld => ?_)
        · ((try dsimp only); (simp [go_sem, *]))
        clear hK K
        (try simp only [Act.put, List.setIfInBounds_toArray, List.set_cons_zero, List.set_cons_succ])
        refine wpAnyH_ready (rs := [6]) (by kernel_rfl) (by simp) ?_
        refine AllReadyH.cons (o := _) rfl (fun K hK => ?_) AllReadyH.nil
        go_simp
        ((go_at_call 63; refine (pick_c g _ _ A n c xs _ (HN.out.dr.upto (by go_grown)) (by omega)).mono ?_; rintro e w2 ⟨_, q2, rfl, ⟨x2, rfl, l2, u2⟩, d2, e2, f2, g2⟩; have v2 := u2 (by omega); clear u2; obtain ⟨k, rfl⟩ := Int.eq_ofNat_of_zero_le l2; have k2 := Lib.hid (gr_via (w := w1.alloc (.cells #[.int .i64 num, .slice (some ⟨b, 0, none⟩) 4 c1] 28)) (by (repeat' (first | exact gr_refl _ _ | (with_reducible assumption) | exact Hid.out (by assumption) | refine gr_drew ?_ | refine gr_drewN ?_ _ | refine gr_alloc ?_ _ | refine gr_set ?_ ?_ _ | omega | (simp; omega)))) g2); have N2 := Lib.hid (HN.out.pick k2.out d2); have P2 := Lib.hid (P1'.out.other k2.out (by simp; omega)); have pc2 := P2.out.cell (i := 0) rfl; obtain ⟨r, hr⟩ := some_at hrl (show k < pn by omega); obtain ⟨TA, tc, hv⟩ := HV.out k r hr; obtain ⟨rb, c0, c1', c2, c3, _⟩ := hv w2 N2.out.gr; have HVV := Lib.hid hv; have HTT := Lib.hid (HT.out r (List.mem_of_getElem? hr)); clear hv hr; have hs2 := k2.out.size; simp at hs2; have hs2' := g2.size; (try simp at hs2'); have zz : w.heap.size < w2.heap.size := (by omega); have zz' : w.heap.size ≠ w2.heap.size := (by omega); have zb : b0 ≠ w2.heap.size := (by omega); (first | (have XB := Lib.hid ((Blk.new (w1.alloc (.cells #[.int .i64 num, .slice (some ⟨b, 0, none⟩) 4 c1] 28)) 35 [.int .i64 0, .int .i64 0, .int .i64 0, .slice none 0 0]).drew.other g2 (by simp; omega)); simp only [World.size_alloc] at XB; have xb0 := XB.out.cell (i := 0) rfl; have xb1 := XB.out.cell (i := 1) rfl; have xb2 := XB.out.cell (i := 2) rfl; have xb3 := XB.out.cell (i := 3) rfl; have xbf := XB.out.free) | skip)))
        (try go_wp2_with fail)
        refine hK.out _ _ ?_ (fun hHeld => ?_)
        · ((try dsimp only); (simp [go_sem, *]))
        clear hK K
        (try simp only [Act.put, List.setIfInBounds_toArray, List.set_cons_zero, List.set_cons_succ])
        refine wpAnyH_take (i := 7) (oi := _) (v := ?_) rfl (by kernel_rfl) (by kernel_rfl) (by kernel_rfl) (fun _ _ _ h => h) (Or.inl ⟨by rfl, ?_⟩) (by assumption) ?_
        rotate_left
        · (intro w hSw; (try dsimp only at hSw); go_simp; (try with_reducible rfl))
        (try simp only [Act.put, List.setIfInBounds_toArray, List.set_cons_zero, List.set_cons_succ])
        refine wpAnyH_ready (rs := [8]) (by kernel_rfl) (by simp) ?_
        refine AllReadyH.cons (o := _) rfl (fun K hK => ?_) AllReadyH.nil
        go_simp
        refine hK.out _ _ ?_ (fun hHeld => ?_)
        · ((try dsimp only); (simp [go_sem, *]))
        clear hK K
        (try simp only [Act.put, List.setIfInBounds_toArray, List.set_cons_zero, List.set_cons_succ])
        refine wpAnyH_ready (rs := [10]) (by kernel_rfl) (by simp) ?_
        refine AllReadyH.cons (o := _) rfl (fun K hK => ?_) AllReadyH.nil
        go_simp
        refine hK.out _ _ ?_ (fun hHeld => ?_)
        · ((try dsimp only); (simp [go_sem, *]))
        clear hK K
        (try simp only [Act.put, List.setIfInBounds_toArray, List.set_cons_zero, List.set_cons_succ])
        refine wpAnyH_done (by kernel_rfl) ?_ _
        (go_wp2_with fail; go_meet; (first | exact ⟨w2.heap.size, r, TA, tc, q2, rfl, N2.out.alloc _, Blk.new w2 35 [.int .i64 r.v, .int .i64 r.lo, .int .i64 r.hi, .slice TA r.ts.length tc], (fun w' k => (HVV.out w' k).2.2.2.2.2), HTT.out, by omega, by simp, by omega, by omega⟩ | exact ⟨w1.heap.size + 1, r, TA, tc, q2, rfl, (((N2.out.far (by omega) _).far (by omega) _).far (by omega) _).far (by omega) _, (((XB.out.set_ 0 (.int .i64 r.v)).set_ 1 (.int .i64 r.lo)).set_ 2 (.int .i64 r.hi)).set_ 3 (.slice TA r.ts.length tc), (fun w' k => (HVV.out w' k).2.2.2.2.2), HTT.out, by omega, by simp; omega, by omega, by omega⟩))
      exact AllReadyH.nil
    case rest =>
      obtain ⟨X, r, TA, tc, q, rfl, HN2, HX, HVT, htl, hX1, hX2, hq1, hq2⟩ := hcut
      have hd0 := HN2.out.dr.low
      clear HN P1' pc0
      go_upto_region 5 with (fail)
      obtain ⟨wd, rfl⟩ : ∃ x : World, x = wc := ⟨_, rfl⟩
      go_cut [] (fun wx => ∃ (num' q' : Int), Hid (Nr w wx w1.heap.size b c1 g A n c xs q' num' ys) ∧ Hid (Blk wx X 35 [.int .i64 r.v, .int .i64 r.lo, .int .i64 r.hi, .slice TA r.ts.length tc]) ∧ X < wx.heap.size ∧ q ≤ q' ∧ q' ≤ q + 1)
      case first =>
        have x1 := HX.out.cell (i := 1) rfl
        have x2 := HX.out.cell (i := 2) rfl
        have zx : X ≠ wd.heap.size := by omega
        have zc : w1.heap.size ≠ wd.heap.size := by omega
        have zc' : w1.heap.size < wd.heap.size := by omega
        have zcx : w1.heap.size ≠ X := by omega
        refine wp_region_held_drew (S := (fun w' => w'.cell? ⟨X, 1, none⟩ = some (.int .i64 r.lo) ∧ w'.cell? ⟨X, 2, none⟩ = some (.int .i64 r.hi))) (by kernel_rfl) ?_ (fun hHeld => ?_)
        · ((try dsimp only); (simp [go_sem, *]))
        refine wpAnyH_take (i := 0) (oi := _) (v := ?_) rfl (by kernel_rfl) (by kernel_rfl) (by kernel_rfl) (fun _ _ _ h => h) (Or.inl ⟨by rfl, ?_⟩) (by assumption) ?_
        rotate_left
        · (intro w hSw; (try dsimp only at hSw); go_simp; (try with_reducible rfl))
        (try simp only [Act.put, List.setIfInBounds_toArray, List.set_cons_zero, List.set_cons_succ])
        refine wpAnyH_take (i := 1) (oi := _) (v := ?_) rfl (by kernel_rfl) (by kernel_rfl) (by kernel_rfl) (fun _ _ _ h => h) (Or.inl ⟨by rfl, ?_⟩) (by assumption) ?_
        rotate_left
        · (intro w hSw; (try dsimp only at hSw); go_simp; (try with_reducible rfl))
        (try simp only [Act.put, List.setIfInBounds_toArray, List.set_cons_zero, List.set_cons_succ])
        refine wpAnyH_take (i := 2) (oi := _) (v := ?_) rfl (by kernel_rfl) (by kernel_rfl) (by kernel_rfl) (fun _ _ _ h => h) (Or.inl ⟨by rfl, ?_⟩) (by assumption) ?_
        rotate_left
        · (intro w hSw; (try dsimp only at hSw); go_simp; (try with_reducible rfl))
        (try simp only [Act.put, List.setIfInBounds_toArray, List.set_cons_zero, List.set_cons_succ])
        refine wpAnyH_take (i := 3) (oi := _) (v := ?_) rfl (by kernel_rfl) (by kernel_rfl) (by kernel_rfl) (fun _ _ _ h => h) (Or.inl ⟨by rfl, ?_⟩) (by assumption) ?_
        rotate_left
        · (intro w hSw; (try dsimp only at hSw); go_simp; (try with_reducible rfl))
        (try simp only [Act.put, List.setIfInBounds_toArray, List.set_cons_zero, List.set_cons_succ])
        refine wpAnyH_take (i := 4) (oi := _) (v := ?_) rfl (by kernel_rfl) (by kernel_rfl) (by kernel_rfl) (fun _ _ _ h => h) (Or.inl ⟨by rfl, ?_⟩) (by assumption) ?_
        rotate_left
        · (intro w hSw; (try dsimp only at hSw); go_simp; (try with_reducible rfl))
        (try simp only [Act.put, List.setIfInBounds_toArray, List.set_cons_zero, List.set_cons_succ])
        refine wpAnyH_take (i := 5) (oi := _) (v := ?_) rfl (by kernel_rfl) (by kernel_rfl) (by kernel_rfl) (fun _ _ _ h => h) (Or.inl ⟨by rfl, ?_⟩) (by assumption) ?_
        rotate_left
        · (intro w hSw; (try dsimp only at hSw); go_simp; (try with_reducible rfl))
        (try simp only [Act.put, List.setIfInBounds_toArray, List.set_cons_zero, List.set_cons_succ])
        refine wpAnyH_take (i := 6) (oi := _) (v := ?_) rfl (by kernel_rfl) (by kernel_rfl) (by kernel_rfl) (fun _ _ _ h => h) (Or.inl ⟨by rfl, ?_⟩) (by assumption) ?_
        rotate_left
        · (intro w hSw; (try dsimp only at hSw); go_simp; (try with_reducible rfl))
        (try simp only [Act.put, List.setIfInBounds_toArray, List.set_cons_zero, List.set_cons_succ])
        refine wpAnyH_take (i := 7) (oi := _) (v := ?_) rfl (by kernel_rfl) (by kernel_rfl) (by kernel_rfl) (fun _ _ _ h => h) (Or.inl ⟨by rfl, ?_⟩) (by assumption) ?_
        rotate_left
        · (intro w hSw; (try dsimp only at hSw); go_simp; (try with_reducible rfl))
        (try simp only [Act.put, List.setIfInBounds_toArray, List.set_cons_zero, List.set_cons_succ])
        refine wpAnyH_take (i := 8) (oi := _) (v := ?_) rfl (by kernel_rfl) (by kernel_rfl) (by kernel_rfl) (fun _ _ _ h => h) (Or.inl ⟨by rfl, ?_⟩) (by assumption) ?_
        rotate_left
        · (intro w hSw; (try dsimp only at hSw); go_simp; (try with_reducible rfl))
        (try simp only [Act.put, List.setIfInBounds_toArray, List.set_cons_zero, List.set_cons_succ])
        refine wpAnyH_take (i := 9) (oi := _) (v := ?_) rfl (by kernel_rfl) (by kernel_rfl) (by kernel_rfl) (fun _ _ _ h => h) (Or.inl ⟨by rfl, ?_⟩) (by assumption) ?_
        rotate_left
        · (intro w hSw; (try dsimp only at hSw); go_simp; (try with_reducible rfl))
        (try simp only [Act.put, List.setIfInBounds_toArray, List.set_cons_zero, List.set_cons_succ])
        refine wpAnyH_take (i := 11) (oi := _) (v := ?_) rfl (by kernel_rfl) (by kernel_rfl) (by kernel_rfl) (fun _ _ _ h => h) (Or.inl ⟨by rfl, ?_⟩) (by assumption) ?_
        rotate_left
        · (intro w hSw; (try dsimp only at hSw); go_simp; (try with_reducible rfl))
        (try simp only [Act.put, List.setIfInBounds_toArray, List.set_cons_zero, List.set_cons_succ])
        refine wpAnyH_ready (rs := [10, 12]) (by kernel_rfl) (by simp) ?_
        refine AllReadyH.cons (o := _) rfl (fun K hK => ?_) ?_
        · go_simp
          refine hK.out _ _ ?_ (fun hHeld => ?_)
          · ((try dsimp only); (simp [go_sem, *]))
          clear hK K
          (try simp only [Act.put, List.setIfInBounds_toArray, List.set_cons_zero, List.set_cons_succ])
          refine wpAnyH_ready (rs := [12]) (by kernel_rfl) (by simp) ?_
          refine AllReadyH.cons (o := _) rfl (fun K hK => ?_) AllReadyH.nil
          go_simp
          ((go_at_call 63; refine (pick_c g _ _ A n c xs _ (HN2.out.dr.upto (by go_grown)) (by omega)).mono ?_; rintro e w5 ⟨_, q5, rfl, ⟨x5, rfl, l5, u5⟩, d5, e5, f5, g5⟩; have v5 := u5 (by omega); clear u5; have k5 := Lib.hid (gr_via (w := wd) (by (repeat' (first | exact gr_refl _ _ | (with_reducible assumption) | exact Hid.out (by assumption) | refine gr_drew ?_ | refine gr_drewN ?_ _ | refine gr_alloc ?_ _ | refine gr_set ?_ ?_ _ | omega | (simp; omega)))) g5); have N5 := Lib.hid (HN2.out.pick k5.out d5); have X5 := Lib.hid (HX.out.other k5.out (by have := HN2.out.hg; simp; omega)); have x51 := X5.out.cell (i := 1) rfl; have x52 := X5.out.cell (i := 2) rfl; have n50 := N5.out.cal.cell (i := 0) rfl; have n5f := N5.out.cal.free; obtain ⟨y, hy⟩ := lit_at [r.lo, r.hi, IntKind.i64.wrap (r.lo - 1), IntKind.i64.wrap (r.hi + 1)] x5 l5 (by simp; omega); have hget : ∀ hi : x5.toNat < [Value.int .i64 r.lo, .int .i64 r.hi, .int .i64 (IntKind.i64.wrap (r.lo - 1)), .int .i64 (IntKind.i64.wrap (r.hi + 1))].length, [Value.int .i64 r.lo, .int .i64 r.hi, .int .i64 (IntKind.i64.wrap (r.lo - 1)), .int .i64 (IntKind.i64.wrap (r.hi + 1))][x5.toNat]'hi = .int .i64 y := lit_get hy; (first | (have e5c := ((Blk.new wd 3 (ints [r.lo, r.hi, IntKind.i64.wrap (r.lo - 1), IntKind.i64.wrap (r.hi + 1)])).drew.other g5 (by simp; omega)).cell hy) | skip); clear hy; have hs5 := k5.out.size; have zx5 : X ≠ w5.heap.size := (by omega); have zx5' : X < w5.heap.size := (by omega); have zc5 : w1.heap.size ≠ w5.heap.size := (by omega); have zc5' : w1.heap.size < w5.heap.size := (by omega)))
          (try go_wp2_with fail)
          refine hK.out _ _ ?_ (fun hHeld => ?_)
          · ((try dsimp only); (simp [go_sem, *]))
          clear hK K
          (try simp only [Act.put, List.setIfInBounds_toArray, List.set_cons_zero, List.set_cons_succ])
          refine wpAnyH_take (i := 13) (oi := _) (v := ?_) rfl (by kernel_rfl) (by kernel_rfl) (by kernel_rfl) (fun _ _ _ h => h) (Or.inl ⟨by rfl, ?_⟩) (by assumption) ?_
          rotate_left
          · (intro w hSw; (try dsimp only at hSw); go_simp; (try with_reducible rfl))
          (try simp only [Act.put, List.setIfInBounds_toArray, List.set_cons_zero, List.set_cons_succ])
          refine wpAnyH_ready (rs := [14]) (by kernel_rfl) (by simp) ?_
          refine AllReadyH.cons (o := _) rfl (fun K hK => ?_) AllReadyH.nil
          go_simp
          refine hK.out _ _ ?_ (fun hHeld => ?_)
          · ((try dsimp only); (simp [go_sem, *]))
          clear hK K
          (try simp only [Act.put, List.setIfInBounds_toArray, List.set_cons_zero, List.set_cons_succ])
          refine wpAnyH_ready (rs := [15]) (by kernel_rfl) (by simp) ?_
          refine AllReadyH.cons (o := _) rfl (fun K hK => ?_) AllReadyH.nil
          go_simp
          ((go_at_call 109; refine (box_c _ _).mono ?_; rintro e w6 ⟨z, rfl, z0, z1, rfl⟩))
          (try go_wp2_with fail)
          refine hK.out _ _ ?_ (fun hHeld => ?_)
          · ((try dsimp only); (simp [go_sem, *]))
          clear hK K
          (try simp only [Act.put, List.setIfInBounds_toArray, List.set_cons_zero, List.set_cons_succ])
          refine wpAnyH_take (i := 16) (oi := _) (v := ?_) rfl (by kernel_rfl) (by kernel_rfl) (by kernel_rfl) (fun _ _ _ h => h) (Or.inl ⟨by rfl, ?_⟩) (by assumption) ?_
          rotate_left
          · (intro w hSw; (try dsimp only at hSw); go_simp; (try with_reducible rfl))
          (try simp only [Act.put, List.setIfInBounds_toArray, List.set_cons_zero, List.set_cons_succ])
          refine wpAnyH_ready (rs := [17]) (by kernel_rfl) (by simp) ?_
          refine AllReadyH.cons (o := _) rfl (fun K hK => ?_) AllReadyH.nil
          go_simp
          refine hK.out _ _ ?_ (fun hHeld => ?_)
          · ((try dsimp only); (simp [go_sem, *]))
          clear hK K
          (try simp only [Act.put, List.setIfInBounds_toArray, List.set_cons_zero, List.set_cons_succ])
          refine wpAnyH_done (by kernel_rfl) ?_ _
          (go_wp2_with fail; go_meet; (first | exact ⟨_, q5, N5.out.setNum z0 z1, X5.out.far (by simp; omega) _, by simp; omega, by omega, by omega⟩ | exact ⟨_, q5, (N5.out.alloc _).setNum z0 z1, (X5.out.alloc _).far (by simp; omega) _, by simp; omega, by omega, by omega⟩ | exact ⟨_, q5, (N5.out.setNum z0 z1).alloc _, (X5.out.far (by simp; omega) _).alloc _, by simp; omega, by omega, by omega⟩))
        refine AllReadyH.cons (o := _) rfl (fun K hK => ?_) ?_
        · go_simp
          ((go_at_call 63; refine (pick_c g _ _ A n c xs _ (HN2.out.dr.upto (by go_grown)) (by omega)).mono ?_; rintro e w5 ⟨_, q5, rfl, ⟨x5, rfl, l5, u5⟩, d5, e5, f5, g5⟩; have v5 := u5 (by omega); clear u5; have k5 := Lib.hid (gr_via (w := wd) (by (repeat' (first | exact gr_refl _ _ | (with_reducible assumption) | exact Hid.out (by assumption) | refine gr_drew ?_ | refine gr_drewN ?_ _ | refine gr_alloc ?_ _ | refine gr_set ?_ ?_ _ | omega | (simp; omega)))) g5); have N5 := Lib.hid (HN2.out.pick k5.out d5); have X5 := Lib.hid (HX.out.other k5.out (by have := HN2.out.hg; simp; omega)); have x51 := X5.out.cell (i := 1) rfl; have x52 := X5.out.cell (i := 2) rfl; have n50 := N5.out.cal.cell (i := 0) rfl; have n5f := N5.out.cal.free; obtain ⟨y, hy⟩ := lit_at [r.lo, r.hi, IntKind.i64.wrap (r.lo - 1), IntKind.i64.wrap (r.hi + 1)] x5 l5 (by simp; omega); have hget : ∀ hi : x5.toNat < [Value.int .i64 r.lo, .int .i64 r.hi, .int .i64 (IntKind.i64.wrap (r.lo - 1)), .int .i64 (IntKind.i64.wrap (r.hi + 1))].length, [Value.int .i64 r.lo, .int .i64 r.hi, .int .i64 (IntKind.i64.wrap (r.lo - 1)), .int .i64 (IntKind.i64.wrap (r.hi + 1))][x5.toNat]'hi = .int .i64 y := lit_get hy; (first | (have e5c := ((Blk.new wd 3 (ints [r.lo, r.hi, IntKind.i64.wrap (r.lo - 1), IntKind.i64.wrap (r.hi + 1)])).drew.other g5 (by simp; omega)).cell hy) | skip); clear hy; have hs5 := k5.out.size; have zx5 : X ≠ w5.heap.size := (by omega); have zx5' : X < w5.heap.size := (by omega); have zc5 : w1.heap.size ≠ w5.heap.size := (by omega); have zc5' : w1.heap.size < w5.heap.size := (by omega)))
          (try go_wp2_with fail)
          refine hK.out _ _ ?_ (fun hHeld => ?_)
          · ((try dsimp only); (simp [go_sem, *]))
          clear hK K
          (try simp only [Act.put, List.setIfInBounds_toArray, List.set_cons_zero, List.set_cons_succ])
          refine wpAnyH_ready (rs := [10]) (by kernel_rfl) (by simp) ?_
          refine AllReadyH.cons (o := _) rfl (fun K hK => ?_) AllReadyH.nil
          go_simp
          refine hK.out _ _ ?_ (fun hHeld => ?_)
          · ((try dsimp only); (simp [go_sem, *]))
          clear hK K
          (try simp only [Act.put, List.setIfInBounds_toArray, List.set_cons_zero, List.set_cons_succ])
          refine wpAnyH_take (i := 13) (oi := _) (v := ?_) rfl (by kernel_rfl) (by kernel_rfl) (by kernel_rfl) (fun _ _ _ h => h) (Or.inl ⟨by rfl, ?_⟩) (by assumption) ?_
          rotate_left
          · (intro w hSw; (try dsimp only at hSw); go_simp; (try with_reducible rfl))
          (try simp only [Act.put, List.setIfInBounds_toArray, List.set_cons_zero, List.set_cons_succ])
          refine wpAnyH_ready (rs := [14]) (by kernel_rfl) (by simp) ?_
          refine AllReadyH.cons (o := _) rfl (fun K hK => ?_) AllReadyH.nil
          go_simp
          refine hK.out _ _ ?_ (fun hHeld => ?_)
          · ((try dsimp only); (simp [go_sem, *]))
          clear hK K
          (try simp only [Act.put, List.setIfInBounds_toArray, List.set_cons_zero, List.set_cons_succ])
          refine wpAnyH_ready (rs := [15]) (by kernel_rfl) (by simp) ?_
          refine AllReadyH.cons (o := _) rfl (fun K hK => ?_) AllReadyH.nil
          go_simp
          ((go_at_call 109; refine (box_c _ _).mono ?_; rintro e w6 ⟨z, rfl, z0, z1, rfl⟩))
          (try go_wp2_with fail)
          refine hK.out _ _ ?_ (fun hHeld => ?_)
          · ((try dsimp only); (simp [go_sem, *]))
          clear hK K
          (try simp only [Act.put, List.setIfInBounds_toArray, List.set_cons_zero, List.set_cons_succ])
          refine wpAnyH_take (i := 16) (oi := _) (v := ?_) rfl (by kernel_rfl) (by kernel_rfl) (by kernel_rfl) (fun _ _ _ h => h) (Or.inl ⟨by rfl, ?_⟩) (by assumption) ?_
          rotate_left
          · (intro w hSw; (try dsimp only at hSw); go_simp; (try with_reducible rfl))
          (try simp only [Act.put, List.setIfInBounds_toArray, List.set_cons_zero, List.set_cons_succ])
          refine wpAnyH_ready (rs := [17]) (by kernel_rfl) (by simp) ?_
          refine AllReadyH.cons (o := _) rfl (fun K hK => ?_) AllReadyH.nil
          go_simp
          refine hK.out _ _ ?_ (fun hHeld => ?_)
          · ((try dsimp only); (simp [go_sem, *]))
          clear hK K
          (try simp only [Act.put, List.setIfInBounds_toArray, List.set_cons_zero, List.set_cons_succ])
          refine wpAnyH_done (by kernel_rfl) ?_ _
          (go_wp2_with fail; go_meet; (first | exact ⟨_, q5, N5.out.setNum z0 z1, X5.out.far (by simp; omega) _, by simp; omega, by omega, by omega⟩ | exact ⟨_, q5, (N5.out.alloc _).setNum z0 z1, (X5.out.alloc _).far (by simp; omega) _, by simp; omega, by omega, by omega⟩ | exact ⟨_, q5, (N5.out.setNum z0 z1).alloc _, (X5.out.far (by simp; omega) _).alloc _, by simp; omega, by omega, by omega⟩))
        exact AllReadyH.nil
      case rest =>
        obtain ⟨num', q', HN3, HX3, hX3, hq3, hq4⟩ := hcut
        clear HN2 HX
        go_wp2_with fail
        go_loopg [7] r.ts.length (fun gk i wr => ∃ (k : Nat) (ys' : List Int) (q'' : Int), gk + k = r.ts.length ∧ i = .int .i64 k ∧ Hid (Nr w wr w1.heap.size b c1 g A n c xs q'' num' ys') ∧ Hid (ys'.length = 4) ∧ Hid (Blk wr X 35 [.int .i64 r.v, .int .i64 r.lo, .int .i64 r.hi, .slice TA r.ts.length tc]) ∧ X < wr.heap.size ∧ q' ≤ q'' ∧ q'' ≤ q' + 4 * k)
        case atStart => exact ⟨0, ys, q', by omega, rfl, HN3, HLY, HX3, hX3, by omega, by omega⟩
        case round =>
          obtain ⟨k, ys', q'', hgk, rfl, HN, HLZ, HXr, hXr, hqa, hqb⟩ := hrel
          have hd0 := HN.out.dr.low
          clear HN3 HX3
          have x3 := HXr.out.cell (i := 3) rfl
          by_cases hk : gk = 0
          · subst hk
            obtain rfl : k = r.ts.length := by omega
            have k0 := HN.out.cal.cell (i := 0) rfl
            have k1 := HN.out.cal.cell (i := 1) rfl
            have r0 := HN.out.res.cell (i := 0) rfl
            have r1 := HN.out.res.cell (i := 1) rfl
            have rf := HN.out.res.free
            go_wp2
            refine bodyPost_ret (v := .agg #[.int .i64 num', .slice (some ⟨b, 0, none⟩) 4 c1]) (by simp [results, Tryd.results65, go_sem, r0, r1, nwc, nwc']) rfl ?_
            go_light
            have hN := HN.out
            exact ⟨_, q'', rfl, ⟨num', _, c1, ys', rfl, own_base (ownsRow_setCell_below (ownsRow_setCell_below hN.own (a := ⟨w.heap.size + 1, 0, none⟩) (by simp) (.int .i64 num')) (a := ⟨w.heap.size + 1, 1, none⟩) (by simp) (.slice (some ⟨b, 0, none⟩) 4 c1)) (by omega), callB_of hN.n0 hN.n1 HLZ.out hN.rng⟩, (hN.dr.far (by simp; omega) _).far (by simp; omega) _, by omega, by omega, gr_set (gr_set hN.gr (.inr (by simp)) _) (.inr (by simp)) _⟩
          · obtain ⟨gk, rfl⟩ : ∃ m, gk = m + 1 := ⟨gk - 1, by omega⟩
            obtain ⟨tb, toff, t, hTA, htb, htk, c0, c1', c2, c3⟩ := (HVT.out wr HN.out.gr).tst (show k < r.ts.length by omega)
            subst hTA
            clear htk
            obtain ⟨wo, rfl⟩ : ∃ x : World, x = wr := ⟨_, rfl⟩
            have hT := Lib.hid (Blk.new wo 83 [.int .i64 t.f, .int .i64 t.m, .int .i64 t.op, .int .i64 t.x])
            have hNa := Lib.hid (HN.out.alloc (.cells #[.int .i64 t.f, .int .i64 t.m, .int .i64 t.op, .int .i64 t.x] 83))
            have hXa := Lib.hid (HXr.out.alloc (.cells #[.int .i64 t.f, .int .i64 t.m, .int .i64 t.op, .int .i64 t.x] 83))
            have zto : X ≠ wo.heap.size := by omega
            by_cases hf : 1 ≤ t.f ∧ t.f ≤ 4
            · have hfd : decide (1 ≤ t.f ∧ t.f ≤ 4) = true := by simp; omega
              have hj : IntKind.i64.wrap (t.f - 1) = t.f - 1 := by rw [IntKind.wrap_i64]; omega
              have hj0 : 0 ≤ t.f - 1 := by omega
              have hj1 : t.f - 1 < 4 := by omega
              have hg0 := HN.out.hg
              go_upto_if 61 with (go_at_call 70; refine (l1In_c _ _ _ _).mono ?_; rintro e w' ⟨rfl, rfl⟩)
              refine (pick_c g _ _ A n c xs _ hNa.out.dr (by omega)).mono ?_
              rintro e4 w4 ⟨_, q4, rfl, ⟨x4, rfl, l4, u4⟩, d4, e4', f4, g4⟩
              have N4 := Lib.hid (hNa.out.pick g4 d4)
              have X4 := Lib.hid (hXa.out.other g4 (by simp; omega))
              have T4 := Lib.hid (hT.out.other g4 (by simp; omega))
              have hs4 := g4.size
              simp at hs4
              clear d4 g4 u4 hNa hXa hT
              go_upto_if 61 with (fail)
              go_cut [] (fun wx => ∃ (ys2 : List Int) (q2 : Int), Hid (Nr w wx w1.heap.size b c1 g A n c xs q2 num' ys2) ∧ Hid (ys2.length = 4) ∧ Hid (Blk wx X 35 [.int .i64 r.v, .int .i64 r.lo, .int .i64 r.hi, .slice (some ⟨tb, toff, none⟩) r.ts.length tc]) ∧ Hid (Blk wx wo.heap.size 83 [.int .i64 t.f, .int .i64 t.m, .int .i64 t.op, .int .i64 t.x]) ∧ wo.heap.size < wx.heap.size ∧ q4 ≤ q2 ∧ q2 ≤ q4 + 1)
              case first =>
                have k1 := N4.out.cal.cell (i := 1) rfl
                have t0 := T4.out.cell (i := 0) rfl
                have t3 := T4.out.cell (i := 3) rfl
                obtain ⟨⟨z4, oc4⟩, of4⟩ := N4.out.arg (k := t.f.toNat - 1) (by omega)
                go_wp2_with fail
                · go_region_held3 (fun w' => w'.cell? ⟨w1.heap.size, 1, none⟩ = some (.slice (some ⟨b, 0, none⟩) 4 c1) ∧ w'.cell? ⟨wo.heap.size, 0, none⟩ = some (.int .i64 t.f) ∧ w'.cell? ⟨wo.heap.size, 3, none⟩ = some (.int .i64 t.x)) (simp [go_sem, *]) (first
                    | (go_at_call 109; refine (box_c _ _).mono ?_; rintro e w6 ⟨z, rfl, z0, z1, rfl⟩)
                    | (go_at_call 63; refine (pick_c g _ _ A n c xs _ (N4.out.dr.upto (by go_grown)) (by omega)).mono ?_; rintro e w5 ⟨_, q5, rfl, ⟨x5, rfl, l5, u5⟩, d5, e5, f5, g5⟩; have k5 := Lib.hid (gr_via (w := w4) (by (repeat' (first | exact gr_refl _ _ | (with_reducible assumption) | exact Hid.out (by assumption) | refine gr_drew ?_ | refine gr_drewN ?_ _ | refine gr_alloc ?_ _ | refine gr_set ?_ ?_ _ | omega | (simp; omega)))) g5); have N5 := Lib.hid (N4.out.pick k5.out d5); have X5 := Lib.hid (X4.out.other k5.out (by simp; omega)); have T5 := Lib.hid (T4.out.other k5.out (by simp; omega)); have k51 := N5.out.cal.cell (i := 1) rfl; have t50 := T5.out.cell (i := 0) rfl; have t53 := T5.out.cell (i := 3) rfl; obtain ⟨⟨z5, oc5⟩, of5⟩ := N5.out.arg (k := t.f.toNat - 1) (by omega); have hs5 := k5.out.size; have zb1 : b ≠ w1.heap.size := (by have := HN.out.hbC; omega); have zb2 : b ≠ wo.heap.size := (by have := HN.out.hbC; omega); have zb3 : w1.heap.size ≠ b := Ne.symm zb1; have zb4 : wo.heap.size ≠ b := Ne.symm zb2; clear d5 g5))
                  all_goals
                    go_wp2_with fail
                    go_meet
                    exact ⟨ys'.set (t.f.toNat - 1) z, q5, N5.out.setArg (t.f.toNat - 1) z0 z1, Lib.hid (by simpa using HLZ.out), X5.out.far (by have := HN.out.hbC; simp; omega) _, T5.out.far (by have := HN.out.hbC; simp; omega) _, by simp; omega, by omega, by omega⟩
                · go_meet
                  exact ⟨ys', q4, N4, HLZ, X4, T4, by omega, by omega, by omega⟩
              case rest =>
                obtain ⟨ys2, q2, HN2, HL2, HX2, HT2, hz2, hqc, hqd⟩ := hcut
                have hd2 := HN2.out.dr.low
                clear N4 X4 T4 HN HXr
                have t0 := HT2.out.cell (i := 0) rfl
                have t2 := HT2.out.cell (i := 2) rfl
                obtain ⟨we, rfl⟩ : ∃ x : World, x = wc := ⟨_, rfl⟩
                by_cases hop : t.op = 1
                · have hopd : (t.op == 1) = true := by rw [hop]; rfl
                  clear hop
                  go_upto_if 87 with (go_at_call 70; refine (l1In_c _ _ _ _).mono ?_; rintro e w' ⟨rfl, rfl⟩)
                  refine (pick_c g _ _ A n c xs _ HN2.out.dr (by omega)).mono ?_
                  rintro e6 w6 ⟨_, q6, rfl, ⟨x6, rfl, l6, u6⟩, d6, e6', f6, g6⟩
                  have N6 := Lib.hid (HN2.out.pick g6 d6)
                  have X6 := Lib.hid (HX2.out.other g6 (by simp; omega))
                  have T6 := Lib.hid (HT2.out.other g6 (by simp; omega))
                  have hs6 := g6.size
                  have hbC := HN2.out.hbC
                  clear d6 g6 u6 t0 t2 HN2 HX2 HT2
                  have k1 := N6.out.cal.cell (i := 1) rfl
                  have t0 := T6.out.cell (i := 0) rfl
                  have t3 := T6.out.cell (i := 3) rfl
                  obtain ⟨⟨z4, oc4⟩, of4⟩ := N6.out.arg (k := t.f.toNat - 1) (by omega)
                  go_wp2_with fail
                  · go_region_held3 (fun w' => w'.cell? ⟨w1.heap.size, 1, none⟩ = some (.slice (some ⟨b, 0, none⟩) 4 c1) ∧ w'.cell? ⟨wo.heap.size, 0, none⟩ = some (.int .i64 t.f) ∧ w'.cell? ⟨wo.heap.size, 3, none⟩ = some (.int .i64 t.x)) (simp [go_sem, *]) (first
                      | (go_at_call 109; refine (box_c _ _).mono ?_; rintro e w8 ⟨z, rfl, z0, z1, rfl⟩)
                      | (go_at_call 63; refine (pick_c g _ _ A n c xs _ (N6.out.dr.upto (by go_grown)) (by omega)).mono ?_; rintro e w7 ⟨_, q7, rfl, ⟨x7, rfl, l7, u7⟩, d7, e7, f7, g7⟩; have v7 := u7 (by omega); clear u7; have k7 := Lib.hid (gr_via (w := w6) (by (repeat' (first | exact gr_refl _ _ | (with_reducible assumption) | exact Hid.out (by assumption) | refine gr_drew ?_ | refine gr_drewN ?_ _ | refine gr_alloc ?_ _ | refine gr_set ?_ ?_ _ | omega | (simp; omega)))) g7); have N7 := Lib.hid (N6.out.pick k7.out d7); have X7 := Lib.hid (X6.out.other k7.out (by simp; omega)); have T7 := Lib.hid (T6.out.other k7.out (by simp; omega)); have k71 := N7.out.cal.cell (i := 1) rfl; have t70 := T7.out.cell (i := 0) rfl; have t73 := T7.out.cell (i := 3) rfl; obtain ⟨⟨z7, oc7⟩, of7⟩ := N7.out.arg (k := t.f.toNat - 1) (by omega); have hs7 := k7.out.size; have zb1 : b ≠ w1.heap.size := (by omega); have zb2 : b ≠ wo.heap.size := (by omega); have zb3 : w1.heap.size ≠ b := Ne.symm zb1; have zb4 : wo.heap.size ≠ b := Ne.symm zb2; clear d7 g7))
                    all_goals
                      go_wp2_with fail
                      go_roundg gk
                      case measure => omega
                      case rel =>
                        go_light
                        have hor := or_word z (256 * x7) z0 z1 (by omega) (by omega)
                        exact ⟨k + 1, ys2.set (t.f.toNat - 1) (bits .or .i64 z (256 * x7)), q7, by omega, by go_num, N7.out.setArg (t.f.toNat - 1) hor.1 hor.2, Lib.hid (by simpa using HL2.out), X7.out.far (by simp; omega) _, by simp; omega, by omega, by omega⟩
                  · go_roundg gk
                    case measure => omega
                    case rel =>
                      go_light
                      exact ⟨k + 1, ys2, q6, by omega, by go_num, N6, HL2, X6, by omega, by omega, by omega⟩
                · have hopd : (t.op == 1) = false := by rw [beq_eq_false_iff_ne]; exact hop
                  clear hop
                  go_wp2_with (go_at_call 70; refine (l1In_c _ _ _ _).mono ?_; rintro e w' ⟨rfl, rfl⟩)
                  all_goals
                    go_roundg gk
                    case measure => omega
                    case rel =>
                      go_light
                      exact ⟨k + 1, ys2, q2, by omega, by go_num, HN2, HL2, HX2, by omega, by omega, by omega⟩
            · have hfd : decide (1 ≤ t.f ∧ t.f ≤ 4) = false := by simp; omega
              go_wp2_with (go_at_call 70; refine (l1In_c _ _ _ _).mono ?_; rintro e w' ⟨rfl, rfl⟩)
              all_goals
                go_roundg gk
                case measure => omega
                case rel =>
                  go_light
                  exact ⟨k + 1, ys', q'', by omega, by go_num, hNa, HLZ, hXa, by simp; omega, by omega, by omega⟩
end Go.Proofs.YtljgaepgblakhaaDoor
