/- Drawn policies. Conditions: each contract's own. -/
import Derived.Test.YtmfienlceobfeaaDoorJbf91c1eed8
import Derived.Test.YtmfienlceobfeaaDoorJ95c411bff7
import Derived.Deep.CutBlock
namespace Go.Proofs.YtmfienlceobfeaaDoor
set_option linter.unusedSimpArgs false
open Go.RowKit
set_option linter.unusedVariables false
set_option linter.unnecessarySimpa false
set_option maxRecDepth 20000
/-- A policy in memory of its own, from block B on, of at most K rules with at most L tests each. -/
def PolIs (ER ET B K L : Nat) (v : Value) (w : World) : Prop := ∃ (A : Option Addr) (n c : Nat) (qs : List (Rl × Value)) (e : Int), v = .agg #[.slice A n c, .int .i64 e] ∧ OP w B w.heap.size ER ET A n c qs ∧ n ≤ K ∧ ∀ q ∈ qs, q.1.ts.length ≤ L
theorem Keep.gr {w w' : World} {g : Nat} (h : w.grownBy w' (some g)) : Keep w w' (fun t => t ≠ g) :=
  (Keep.refl w _).grown h (fun t ht _ e => by injection e with e; exact ht e.symm)
theorem OP.gr {w w' : World} {lo hi ER ET n c g : Nat} {A : Option Addr} {qs : List (Rl × Value)} (h : OP w lo hi ER ET A n c qs) (k : w.grownBy w' (some g)) (hg : g < lo) : OP w' lo hi ER ET A n c qs :=
  h.keep (Keep.gr k) (fun t h1 _ e => by omega)
theorem OP.top {w w' : World} {lo ER ET n c g : Nat} {A : Option Addr} {qs : List (Rl × Value)} (h : OP w lo w.heap.size ER ET A n c qs) (k : w.grownBy w' (some g)) (hg : g < lo) : OP w' lo w'.heap.size ER ET A n c qs :=
  (h.gr k hg).wide (Nat.le_refl _) k.size
theorem own_gr {w w' : World} {base e size n g : Nat} {v : Value} {xs : List Value} (h : w.ownsRow base e size v n xs) (k : w.grownBy w' (some g)) (hg : g < base) : w'.ownsRow base e size v n xs :=
  (Keep.gr k).own h (fun t ht e => by have := (h.lt t ht).1; omega)
theorem ls_add {L : Nat} {qs : List (Rl × Value)} {q : Rl × Value} (h : ∀ q ∈ qs, q.1.ts.length ≤ L) (hq : q.1.ts.length ≤ L) : ∀ x ∈ qs ++ [q], x.1.ts.length ≤ L := by
  intro x hx
  rcases List.mem_append.1 hx with hx | hx
  · exact h x hx
  · rw [List.mem_singleton.1 hx]; exact hq
theorem tsts_add (ts : List Tst) (t : Tst) : tsts (ts ++ [t]) = tsts ts ++ t.cells := by simp [tsts]
theorem rd_tst (w : World) (t : Tst) (T : Nat) : Rd (w.alloc (.cells #[.int .i64 t.f, .int .i64 t.m, .int .i64 t.op, .int .i64 t.x] T)) (w.heap.size + 1) 4 (some ⟨w.heap.size, 0, none⟩) 1 t.cells := rd_new rfl T 4 1 t.cells rfl
theorem one_tcell (t : Tst) : ∀ u ∈ t.cells, u.oneCell' = true := by
  intro u hu
  simp only [Tst.cells, List.mem_cons, List.not_mem_nil, or_false] at hu
  rcases hu with rfl | rfl | rfl | rfl <;> rfl
theorem own_blk {w : World} {base e size n c b : Nat} {A : Option Addr} {v : Value} {xs : List Value} (h : w.ownsRow base e size v n xs) (hb : v.ownBlock = some b) : base ≤ b := (h.lt b hb).1
/-- A rule made in a block of its own, ready to be put behind others. -/
theorem made {w : World} {X Y ER ET m tc : Nat} {TA : Option Addr} {v lo hi : Int} {ts : List Tst} (hX : X ≤ Y) (ho : w.ownsRow (Y + 1) ET 4 (.slice TA m tc) m (tsts ts)) :
    TO w X w.heap.size ET (⟨v, lo, hi, ts⟩, .slice TA m tc) := by
  have hm : ts.length = m := by have := ho.1; rw [tsts_len] at this; omega
  subst hm
  exact ⟨own_base ho (by omega), fun g e => (ho.lt g e).2⟩
set_option maxHeartbeats 4000000 in
set_option maxRecDepth 100000 in
theorem drawPolicy_c (g : Nat) (p : Int) (A : Option Addr) (n c : Nat) (xs : List Int) (K L : Nat) (w : World) (h : Dr w g 56 p A n c xs) (hp : p ≤ 1099511600000) (hK : K ≤ 8) (hL : L ≤ 4) :
    Calls Tryd.prog 12 #[.pointer (some ⟨g, 0, none⟩), .int .i64 K, .int .i64 L] w (RetDraw (PolIs 37 52 w.heap.size K L) g 56 p 1000 A n c xs w) := by
  obtain ⟨i0, hi0, hz0, hz1, hz2⟩ := info_parts info_rule
  obtain ⟨j0, hj0, hy0, hy1, hy2⟩ := info_parts info_test4
  have hlow := h.low
  have hgl := h.blk.lt
  have D0 := Lib.hid h
  clear h
  have hA := Lib.hid (Blk.new w 25 [.slice none 0 0, .int .i64 0])
  go_enter Tryd.func12, Tryd.ntmps12
  (go_wp2_with fail); (go_at_call 13; refine (pick_c g _ _ A n c xs _ (D0.out.upto (by go_grown)) (by omega)).mono ?_; rintro e w1 ⟨_, q1, rfl, ⟨x1, rfl, l1, u1⟩, d1, e1, f1, g1⟩; have A1 := Lib.hid (hA.out.other g1 (by simp; omega)); clear hA; obtain ⟨gc1, gf1⟩ := grown_get g1; (try simp only [heap_drew, World.size_alloc, World.size_setCell] at gc1 gf1); have hs1 := g1.size; (try simp at hs1); have G1 := Lib.hid (gr_via (w := w) (by (repeat' (first | exact gr_refl _ _ | (with_reducible assumption) | exact Hid.out (by assumption) | refine gr_drew ?_ | refine gr_drewN ?_ _ | refine gr_alloc ?_ _ | refine gr_set ?_ ?_ _ | omega | (simp; omega)))) g1); clear g1; have D1 := Lib.hid d1; clear d1; have z1_0 : w.heap.size < w1.heap.size := (by omega); have n1_0 : w.heap.size ≠ g := (by omega))
  have v1 := u1 (by omega)
  have n1 : w1.heap.size ≠ g := by omega
  have n0 : w.heap.size ≠ w1.heap.size := by omega
  have hB := Lib.hid (Blk.new w1 25 [.slice none 0 0, .int .i64 (1 + x1)])
  (go_wp2_with fail); (go_at_call 13; refine (pick_c g _ _ A n c xs _ (D1.out.upto (by go_grown)) (by omega)).mono ?_; rintro e w2 ⟨_, q2, rfl, ⟨x2, rfl, l2, u2⟩, d2, e2, f2, g2⟩; have A2 := Lib.hid ((A1.out.alloc _).other g2 (by simp; omega)); have B2 := Lib.hid (hB.out.other g2 (by simp; omega)); clear hB; obtain ⟨gc2, gf2⟩ := grown_get g2; (try simp only [heap_drew, World.size_alloc, World.size_setCell] at gc2 gf2); have hs2 := g2.size; (try simp at hs2); have G2 := Lib.hid (gr_via (w := w) (by (repeat' (first | exact gr_refl _ _ | (with_reducible assumption) | exact Hid.out (by assumption) | refine gr_drew ?_ | refine gr_drewN ?_ _ | refine gr_alloc ?_ _ | refine gr_set ?_ ?_ _ | omega | (simp; omega)))) g2); clear g2; have D2 := Lib.hid d2; clear d2; have z2_0 : w.heap.size < w2.heap.size := (by omega); have n2_0 : w.heap.size ≠ g := (by omega); have z2_1 : w1.heap.size < w2.heap.size := (by omega); have n2_1 : w1.heap.size ≠ g := (by omega))
  have v2 := u2 (by omega)
  obtain ⟨N, rfl⟩ := Int.eq_ofNat_of_zero_le l2
  clear u1 u2 gc1 gf1 gc2 gf2
  go_wp2_with fail
  go_loopg [8] N (fun gk i wr => ∃ (k : Nat) (Ao : Option Addr) (co : Nat) (qs : List (Rl × Value)) (q : Int), gk + k = N ∧ i = .int .i64 gk ∧ Hid (Blk wr w.heap.size 25 [.slice none 0 0, .int .i64 0]) ∧ Hid (Blk wr w1.heap.size 25 [.slice Ao k co, .int .i64 (1 + x1)]) ∧
      Hid (OP wr (w1.heap.size + 1) wr.heap.size 37 52 Ao k co qs) ∧ Hid (∀ q ∈ qs, q.1.ts.length ≤ L) ∧ Hid (Dr wr g 56 q A n c xs) ∧ p ≤ q ∧ q ≤ p + 2 + 100 * k ∧ Hid (w.grownBy wr (some g)) ∧ w1.heap.size < wr.heap.size)
  case atStart => exact ⟨0, none, 0, [], q2, rfl, rfl, A2, B2, Lib.hid (OP.nil_ _ _ _ _ _), Lib.hid (fun q h => by cases h), D2, by omega, by omega, G2, by omega⟩
  case round =>
    obtain ⟨k, Ao, co, qs, q, hgk, rfl, HA, HB, HO, HL, HD, hq1, hq2, HG, hz⟩ := hrel
    have hd0 := HD.out.low
    have ho := HO.out
    by_cases hk : gk = 0
    · subst hk
      obtain rfl : k = N := by omega
      have b0 := HB.out.cell (i := 0) rfl
      have b1 := HB.out.cell (i := 1) rfl
      have a0 := HA.out.cell (i := 0) rfl
      have a1 := HA.out.cell (i := 1) rfl
      have af := HA.out.free
      clear ho
      go_wp2
      refine bodyPost_ret (v := .agg #[.slice Ao k co, .int .i64 (1 + x1)]) (by simp [results, Tryd.results12, go_sem, a0, a1]) rfl ?_
      go_light
      exact ⟨_, q, rfl, ⟨Ao, k, co, qs, _, rfl, (((HO.out.set_ (g := w.heap.size) (o := 0) (.inl (by omega)) _).set_ (g := w.heap.size) (o := 1) (.inl (by omega)) _).wide (by omega) (by simp)), by omega, HL.out⟩, (HD.out.far (by simp; omega) _).far (by simp; omega) _, by omega, by omega, gr_set (gr_set HG.out (.inr (by simp)) _) (.inr (by simp)) _⟩
    · obtain ⟨gk, rfl⟩ : ∃ m, gk = m + 1 := ⟨gk - 1, by omega⟩
      clear ho
      (go_wp2_with fail); (go_at_call 13; refine (pick_c g _ _ A n c xs _ HD.out (by omega)).mono ?_; rintro e w3 ⟨_, q3, rfl, ⟨x3, rfl, l3, u3⟩, d3, e3, f3, g3⟩; have A3 := Lib.hid (HA.out.other g3 (by simp; omega)); have B3 := Lib.hid (HB.out.other g3 (by simp; omega)); have O3 := Lib.hid (HO.out.top g3 (by omega)); have hs3 := g3.size; have G3 := Lib.hid (gr_via HG.out g3); have D3 := Lib.hid d3; have v3 := u3 (by omega); clear d3 g3 u3 HA HB HO HD HG)
      (go_wp2_with fail); (go_at_call 13; refine (pick_c g _ _ A n c xs _ D3.out (by omega)).mono ?_; rintro e w4 ⟨_, q4, rfl, ⟨x4, rfl, l4, u4⟩, d4, e4, f4, g4⟩; have A4 := Lib.hid (A3.out.other g4 (by simp; omega)); have B4 := Lib.hid (B3.out.other g4 (by simp; omega)); have O4 := Lib.hid (O3.out.top g4 (by omega)); have hs4 := g4.size; have G4 := Lib.hid (gr_via G3.out g4); have D4 := Lib.hid d4; have v4 := u4 (by omega); clear d4 g4 u4 A3 B3 O3 D3 G3)
      have hY : Hid (Blk (w4.alloc (.cells #[.int .i64 (1 + x4), .int .i64 x3, .int .i64 x3, .slice none 0 0] 37)) w4.heap.size 37 [.int .i64 (1 + x4), .int .i64 x3, .int .i64 x3, .slice none 0 0]) := Lib.hid (Blk.new w4 37 [.int .i64 (1 + x4), .int .i64 x3, .int .i64 x3, .slice none 0 0])
      (go_wp2_with fail); (go_at_call 13; refine (pick_c g _ _ A n c xs _ (D4.out.upto (by go_grown)) (by omega)).mono ?_; rintro e w5 ⟨_, q5, rfl, ⟨x5, rfl, l5, u5⟩, d5, e5, f5, g5⟩; have A5 := Lib.hid ((A4.out.alloc _).other g5 (by simp; omega)); have B5 := Lib.hid ((B4.out.alloc _).other g5 (by simp; omega)); have Y5 := Lib.hid (hY.out.other g5 (by simp; omega)); have O5 := Lib.hid ((O4.out.up (by go_grown)).gr g5 (by omega)); have hs5 := g5.size; simp at hs5; have G5 := Lib.hid (gr_via (gr_alloc G4.out _) g5); have D5 := Lib.hid d5; have v5 := u5 (by omega); clear d5 g5 u5 hY A4 B4 O4 D4 G4)
      go_upto_block 2 with (fail)
      go_cut [34, 41] (fun v34 v41 wx => ∃ (lo hi q : Int), Hid (Blk wx w.heap.size 25 [.slice none 0 0, .int .i64 0]) ∧ Hid (Blk wx w1.heap.size 25 [.slice Ao k co, .int .i64 (1 + x1)]) ∧ Hid (Blk wx w4.heap.size 37 [.int .i64 (1 + x4), .int .i64 lo, .int .i64 hi, .slice none 0 0]) ∧
        Hid (OP wx (w1.heap.size + 1) w4.heap.size 37 52 Ao k co qs) ∧ Hid (Dr wx g 56 q A n c xs) ∧ q5 ≤ q ∧ q ≤ q5 + 1 ∧ Hid (w.grownBy wx (some g)) ∧ w4.heap.size < wx.heap.size)
      case first =>
        have y0 := Y5.out.cell (i := 0) rfl
        have y1 := Y5.out.cell (i := 1) rfl
        have y2 := Y5.out.cell (i := 2) rfl
        have yf := Y5.out.free
        by_cases h0 : x5 = 0
        · subst h0
          (go_wp2_with fail); (go_at_call 13; refine (pick_c g _ _ A n c xs _ D5.out (by omega)).mono ?_; rintro e w6 ⟨_, q6, rfl, ⟨x6, rfl, l6, u6⟩, d6, e6, f6, g6⟩; have A6 := Lib.hid (A5.out.other g6 (by simp; omega)); have B6 := Lib.hid (B5.out.other g6 (by simp; omega)); have Y6 := Lib.hid (Y5.out.other g6 (by simp; omega)); have O6 := Lib.hid (O5.out.gr g6 (by omega)); have hs6 := g6.size; have G6 := Lib.hid (gr_via G5.out g6); have D6 := Lib.hid d6; have v6 := u6 (by omega); clear d6 g6 u6; clear y0 y1 y2 yf; have y2 := Y6.out.cell (i := 2) rfl; have yf := Y6.out.free)
          go_wp2_with fail
          go_meet
          exact ⟨_, _, q6, A6.out.far (by simp; omega) _, B6.out.far (by simp; omega) _, Y6.out.set_ 2 _, O6.out.set_ (.inr (by omega)) _, D6.out.far (by simp; omega) _, by omega, by omega, gr_set G6.out (.inr (by simp; omega)) _, by simp; omega⟩
        have k0 : (x5 == 0) = false := by simpa using h0
        by_cases h1 : x5 = 1
        · subst h1
          go_wp2_with fail
          have hW := Y5.out.set_ 1 (.int .i64 0)
          have G5' := Lib.hid (gr_set G5.out (p := ⟨w4.heap.size, 1, none⟩) (.inr (by simp; omega)) (.int .i64 0))
          have D5' := Lib.hid (D5.out.far (a := ⟨w4.heap.size, 1, none⟩) (by simp; omega) (.int .i64 0))
          have A5' := Lib.hid (A5.out.far (p := ⟨w4.heap.size, 1, none⟩) (by simp; omega) (.int .i64 0))
          have B5' := Lib.hid (B5.out.far (p := ⟨w4.heap.size, 1, none⟩) (by simp; omega) (.int .i64 0))
          have O5' := Lib.hid (O5.out.set_ (g := w4.heap.size) (o := 1) (.inr (Nat.le_refl _)) (.int .i64 0))
          have Y5' := Lib.hid hW
          have hs5' : (w5.setCell ⟨w4.heap.size, 1, none⟩ (.int .i64 0)).heap.size = w5.heap.size := by simp
          clear hW y0 y1 y2 yf
          generalize w5.setCell ⟨w4.heap.size, 1, none⟩ (.int .i64 0) = wz at *
          have hE := Lib.hid (Blk.new wz 3 (ints [4294967295, 4294967294]))
          go_at_call 13
          refine (pick_c g _ _ A n c xs _ (D5'.out.upto (by go_grown)) (by omega)).mono ?_
          rintro e w6 ⟨_, q6, rfl, ⟨x6, rfl, l6, u6⟩, d6, e6, f6, g6⟩
          have A6 := Lib.hid ((A5'.out.alloc _).other g6 (by simp; omega))
          have B6 := Lib.hid ((B5'.out.alloc _).other g6 (by simp; omega))
          have Y6 := Lib.hid ((Y5'.out.alloc _).other g6 (by simp; omega))
          have E6 := Lib.hid (hE.out.other g6 (by simp; omega))
          have O6 := Lib.hid ((O5'.out.up (by go_grown)).gr g6 (by omega))
          have hs6 := g6.size
          simp at hs6
          have G6 := Lib.hid (gr_via (gr_alloc G5'.out _) g6)
          have D6 := Lib.hid d6
          have v6 := u6 (by omega)
          clear d6 g6 u6 hE
          obtain ⟨y, hy⟩ := lit_at [4294967295, 4294967294] x6 l6 (by simp; omega)
          have ey := E6.out.cell hy
          rw [hs5'] at ey
          clear hy
          have y2 := Y6.out.cell (i := 2) rfl
          have yf := Y6.out.free
          go_wp2_with fail
          go_meet
          exact ⟨_, _, q6, A6.out.far (by simp; omega) _, B6.out.far (by simp; omega) _, Y6.out.set_ 2 _, O6.out.set_ (.inr (by omega)) _, D6.out.far (by simp; omega) _, by omega, by omega, gr_set G6.out (.inr (by simp; omega)) _, by simp; omega⟩
        have k1 : (x5 == 1) = false := by simpa using h1
        go_wp2
        go_meet
        exact ⟨_, _, q5, A5, B5, Y5, O5, D5, by omega, by omega, G5, by omega⟩
      case rest =>
        obtain ⟨lo, hi, q', HA, HB, HY, HO, HD, hq1', hq2', HG, hz'⟩ := hcut
        clear A5 B5 Y5 O5 D5 G5
        (go_wp2_with fail); (go_at_call 13; refine (pick_c g _ _ A n c xs _ HD.out (by omega)).mono ?_; rintro e w7 ⟨_, q7, rfl, ⟨x7, rfl, l7, u7⟩, d7, e7, f7, g7⟩; have A7 := Lib.hid (HA.out.other g7 (by simp; omega)); have B7 := Lib.hid (HB.out.other g7 (by simp; omega)); have Y7 := Lib.hid (HY.out.other g7 (by simp; omega)); have O7 := Lib.hid (HO.out.gr g7 (by omega)); have hs7 := g7.size; have G7 := Lib.hid (gr_via HG.out g7); have D7 := Lib.hid d7; have v7 := u7 (by omega); clear d7 g7 u7)
        obtain ⟨M, rfl⟩ := Int.eq_ofNat_of_zero_le l7
        go_wp2_with fail
        clear HA HB HY HO HD HG
        obtain ⟨ga, rfl⟩ : ∃ x : Nat, x = gk := ⟨_, rfl⟩
        obtain ⟨wo, rfl⟩ : ∃ x : World, x = wr := ⟨_, rfl⟩
        go_loopg [11] M (fun gj j wr => ∃ (m : Nat) (v : Value) (ts : List Tst) (q : Int), gj + m = M ∧ j = .int .i64 gj ∧ ts.length = m ∧ Hid (Blk wr w.heap.size 25 [.slice none 0 0, .int .i64 0]) ∧ Hid (Blk wr w1.heap.size 25 [.slice Ao k co, .int .i64 (1 + x1)]) ∧ Hid (Blk wr w4.heap.size 37 [.int .i64 (1 + x4), .int .i64 lo, .int .i64 hi, v]) ∧
          Hid (OP wr (w1.heap.size + 1) w4.heap.size 37 52 Ao k co qs) ∧ Hid (wr.ownsRow (w4.heap.size + 1) 52 4 v m (tsts ts)) ∧ Hid (Dr wr g 56 q A n c xs) ∧ q7 ≤ q ∧ q ≤ q7 + 10 * m ∧ Hid (w.grownBy wr (some g)) ∧ w4.heap.size < wr.heap.size)
        case atStart => exact ⟨0, .slice none 0 0, [], q7, by omega, rfl, rfl, A7, B7, Y7, O7, Lib.hid (World.ownsRow_nil _ _ _ _), D7, by omega, by omega, G7, by omega⟩
        case round =>
          obtain ⟨m, v, ts, q8, hgm, rfl, hm, HA, HB, HY, HO, HR, HD, hq1'', hq2'', HG, hz''⟩ := hrel
          clear A7 B7 Y7 O7 G7 D7
          have hob : ∀ b, v.ownBlock = some b → w4.heap.size + 1 ≤ b := fun b hb => (HR.out.lt b hb).1
          have HOB := Lib.hid hob
          have HM := Lib.hid hm
          clear hob hm
          have y3 := HY.out.cell (i := 3) rfl
          have yf := HY.out.free
          by_cases hj : gk = 0
          · subst hj
            obtain rfl : m = M := by omega
            obtain ⟨TA, tc, rfl⟩ := own_slice HR.out
            have b0 := HB.out.cell (i := 0) rfl
            have bf := HB.out.free
            have y0 := HY.out.cell (i := 0) rfl
            have y1 := HY.out.cell (i := 1) rfl
            have y2 := HY.out.cell (i := 2) rfl
            have HC : Hid (Rd (wr.alloc (.cells #[.int .i64 (1 + x4), .int .i64 lo, .int .i64 hi, .slice TA m tc] 37)) (wr.heap.size + 1) 4 (some ⟨wr.heap.size, 0, none⟩) 1 (rcells [(⟨1 + x4, lo, hi, ts⟩, .slice TA m tc)])) := Lib.hid (rd_new (w := wr) rfl 37 4 1 (rcells [(⟨1 + x4, lo, hi, ts⟩, .slice TA m tc)]) rfl)
            have HT := Lib.hid ((made (X := w1.heap.size + 1) (Y := w4.heap.size) (ER := 37) (v := 1 + x4) (lo := lo) (hi := hi) (by omega) HR.out).up (w' := wr.alloc (.cells #[.int .i64 (1 + x4), .int .i64 lo, .int .i64 hi, .slice TA m tc] 37)) (by go_grown))
            have HOW := Lib.hid (HO.out.up (w' := wr.alloc (.cells #[.int .i64 (1 + x4), .int .i64 lo, .int .i64 hi, .slice TA m tc] 37)) (by go_grown))
            have hm := HM.out
            go_wp2_with (at_builtin; go_must (refine wpList_append_rd _ rfl _ _ 23 rfl (w1.heap.size + 1) 37 i0 _ 4 48 Tryd.underlying23 hi0 hz0 hz1 hz2 rfl (by omega) (.slice Ao k co) k (rcells qs) rfl HOW.out.own _ (some ⟨wr.heap.size, 0, none⟩) 1 1 _ rfl HC.out (one_rcells (fun q hq => by rw [List.mem_singleton.1 hq]; exact HT.out)) (by unfold maxLen; omega) (by omega) (by simp; omega) ?_; intro A2 c2 w8 ho2 hg2 ha2; have hs8 := hg2.size; (try simp at hs8); have O8 := Lib.hid (HOW.out.app (by decide) (hi' := w8.heap.size) (fun q hq => by rw [List.mem_singleton.1 hq]; exact HT.out.wide (by omega) (by (try simp); omega)) (by omega) ho2 hg2 (Nat.le_refl _)); have A8 := Lib.hid ((HA.out.alloc _).gn hg2 (fun e => by have := (HO.out.lt _ e).1; omega)); have B8 := Lib.hid ((HB.out.alloc _).gn hg2 (fun e => by have := (HO.out.lt _ e).1; omega)); have D8 := Lib.hid ((HD.out.upto (by go_grown)).other hg2 (fun b e => by have := (HO.out.lt b e).1; omega)); have G8 := Lib.hid (gr_grown (gr_alloc HG.out _) hg2 (fun b e => .inr (by have := (HO.out.lt b e).1; omega))); have b0 := B8.out.cell (i := 0) rfl; have bf := B8.out.free; clear ho2 hg2 ha2))
            go_roundg ga
            case measure => omega
            case rel =>
              go_light
              exact ⟨k + 1, A2, c2, _, q8, by omega, by go_num, A8.out.far (by simp; omega) _, B8.out.set_ 0 _, Lib.hid ((O8.out.set_ (g := w1.heap.size) (o := 0) (.inl (by omega)) _).wide (Nat.le_refl _) (by simp)), Lib.hid (ls_add HL.out (by simp; omega)), D8.out.far (by simp; omega) _, by omega, by omega, gr_set G8.out (.inr (by simp; omega)) _, by simp; omega⟩
          · obtain ⟨gk, rfl⟩ : ∃ j, gk = j + 1 := ⟨gk - 1, by omega⟩
            go_wp2
            go_region_law (first
              | (refine step_append_rd _ (by rfl) _ _ _ (by rfl) (w4.heap.size + 1) 52 j0 _ 4 32 Tryd.underlying35 hj0 hy0 hy1 hy2 rfl (by omega) v m (tsts ts) (by rfl) (HR9.out.alloc _) (w9.heap.size + 1) (some ⟨w9.heap.size, 0, none⟩) 1 1 _ (by rfl) (rd_tst w9 ⟨f9, m9, o9, y9⟩ _) (one_tcell _) (by unfold maxLen; omega) (by omega) (by simp; omega) ?_; intro A10 c10 w10 ho10 hg10 ha10; have A10' := Lib.hid ((A9.out.alloc _).other hg10 (fun e => by have := HOB.out _ e; omega)); have B10 := Lib.hid ((B9.out.alloc _).other hg10 (fun e => by have := HOB.out _ e; omega)); have Y10 := Lib.hid ((Y9.out.alloc _).other hg10 (fun e => by have := HOB.out _ e; omega)); have O10 := Lib.hid (OP.keep (O9.out.up (Below.alloc (Below.refl _ _) (Nat.le_refl _) _)) ((Keep.refl _ (fun t => t < w4.heap.size)).grown hg10 (fun t ht _ e => by have := HOB.out _ e; omega)) (fun t _ h => h)); have y30 := Y10.out.cell (i := 3) rfl; have yf0 := Y10.out.free; have hs10 := hg10.size; simp at hs10; have D10 := Lib.hid ((D9.out.upto (Below.alloc (Below.refl _ _) (Nat.le_refl _) _)).other hg10 (fun b e => by have := HOB.out _ e; omega)); have G10 := Lib.hid (gr_grown (gr_alloc G9.out _) hg10 (fun b e => by have := HOB.out _ e; omega)); have R10 := Lib.hid ho10; clear ho10 hg10 ha10)
              | (go_simp; (go_at_call 23; refine (drawTest_c g _ A n c xs _ (HD.out.drewN 1) (by omega)).mono ?_; rintro e w9 ⟨_, q9, rfl, ⟨f9, m9, o9, y9, rfl⟩, d9, e9, i9, g9⟩; have k9 := gr_via (gr_drew (gr_refl wr g)) g9; have HR9 := Lib.hid (own_gr HR.out k9 (by omega)); have A9 := Lib.hid (HA.out.other k9 (by simp; omega)); have B9 := Lib.hid (HB.out.other k9 (by simp; omega)); have Y9 := Lib.hid (HY.out.other k9 (by simp; omega)); have O9 := Lib.hid (HO.out.gr k9 (by omega)); have y39 := Y9.out.cell (i := 3) rfl; have yf9 := Y9.out.free; have hs9 := k9.size; have z9 : w4.heap.size < w9.heap.size := (by omega); have G9 := Lib.hid (gr_via HG.out k9); have D9 := Lib.hid d9; unfold testV; clear g9 d9 k9)))
            all_goals
              go_wp2
              go_roundg gk
              case measure => omega
              case rel =>
                go_light
                have hm := HM.out
                exact ⟨m + 1, _, ts ++ [⟨f9, m9, o9, y9⟩], q9, by omega, by go_num, by simp; omega, A10'.out.far (by simp; omega) _, B10.out.far (by simp; omega) _, Y10.out.set_ 3 _, O10.out.set_ (.inr (by omega)) _, Lib.hid (by rw [tsts_add]; exact ownsRow_setCell_below R10.out (a := ⟨w4.heap.size, 3, none⟩) (by simp) _), D10.out.far (by simp; omega) _, by omega, by omega, gr_set G10.out (.inr (by simp; omega)) _, by simp; omega⟩
end Go.Proofs.YtmfienlceobfeaaDoor
