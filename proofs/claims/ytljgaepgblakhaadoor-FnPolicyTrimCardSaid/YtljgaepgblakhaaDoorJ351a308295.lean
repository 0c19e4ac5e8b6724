/- DrawPolicyTrim: a drawn policy some of whose rules come twice. Conditions: its own. -/
import Derived.Test.YtljgaepgblakhaaDoorJ0bc279eb76
namespace Go.Proofs.YtljgaepgblakhaaDoor
set_option linter.unusedSimpArgs false
open Go.RowKit
set_option linter.unusedVariables false
set_option linter.unnecessarySimpa false
set_option maxRecDepth 20000
theorem rcells_oneT {q : Rl × Value} {TA : Option Addr} {n tc : Nat} (h : q.2 = .slice TA n tc) : rcells [q] = [.int .i64 q.1.v, .int .i64 q.1.lo, .int .i64 q.1.hi, .slice TA n tc] := by simp [rcells, qcells, h]
theorem ls_setT {L : Nat} {qs : List (Rl × Value)} {k : Nat} {q a : Rl × Value} (h : ∀ q ∈ qs, q.1.ts.length ≤ L) (ha : qs[k]? = some a) (hq : q.1.ts = a.1.ts) : ∀ x ∈ qs.set k q, x.1.ts.length ≤ L := by
  intro x hx
  rcases List.mem_or_eq_of_mem_set hx with hx | rfl
  · exact h x hx
  · rw [hq]; exact h a (List.mem_of_getElem? ha)
theorem Keep.upA {w w' : World} {ok : Nat → Prop} (h : Keep w w' ok) (o : Obj) : Keep w (w'.alloc o) ok :=
  h.trans (Keep.of_below (ok := fun t => t < w'.heap.size) (Below.alloc (Below.refl _ _) (Nat.le_refl _) o) (fun t ht _ => ht)) (fun t _ ht => Nat.lt_of_lt_of_le ht h.size)
theorem gr_of_below {w w' : World} (b : Below w.heap.size w w') (g : Nat) : w.grownBy w' (some g) := ⟨b.os, b.tape, b.output, b.size, fun i hi _ => b.block i hi⟩
theorem OP.ne_blk {w : World} {lo hi ER ET g n c X T : Nat} {qs : List (Rl × Value)} {cs : List Value} (h : OP w lo hi ER ET (some ⟨g, 0, none⟩) n c qs) (hB : Blk w X T cs) (hT : ER ≠ T) : g ≠ X := by
  rintro rfl
  rcases h.own.2 with ⟨hv, _⟩ | ⟨g1, cap, cur, hv, _, hh, _⟩
  · cases hv
  · injection hv with a
    injection a with a
    injection a with a
    subst a
    have h2 := hB
    unfold Blk at h2
    rw [hh] at h2
    injection h2 with h2
    injection h2 with _ e3 _
    exact hT e3
set_option maxHeartbeats 40000000 in
set_option maxRecDepth 100000 in
theorem drawPolicyTrim_c (A : Option Addr) (n c : Nat) (xs : List Int) (w : World) (hr : Rd w w.heap.size 1 A n (u8s xs)) (hx : ∀ x ∈ xs, 0 ≤ x ∧ x ≤ 255) (hc : n ≤ c) (hc2 : c ≤ 9223372036854775807) :
    Calls Tryd.prog 36 #[.slice A n c] w (RetDP 35 83 w) := by
  obtain ⟨i0, hi0, hz0, hz1, hz2⟩ := info_parts info_rule
  obtain ⟨j0, hj0, hy0, hy1, hy2⟩ := info_parts info_test4
  have HR := Lib.hid hr
  have HX := Lib.hid hx
  have HB1 := Lib.hid (Blk.new w 25 [.slice none 0 0, .int .i64 0])
  clear hr hx
  go_enter Tryd.func36, Tryd.ntmps36
  (go_wp2_with fail); (go_at_call 61; refine (l1Open_c A n c xs _ (HR.out.upB (by go_grown) (by go_size)) HX.out hc hc2).mono ?_; rintro e w1 ⟨n1, c1, xs1, rfl, d1, b1, z1⟩; simp only [World.size_alloc] at d1 z1 b1; have D1 := Lib.hid d1; have B1 := Lib.hid ((show Below w.heap.size w (w.alloc (.cells #[.slice none 0 0, .int .i64 0] 25)) by go_grown).trans (b1.mono (by omega))); have R1 := Lib.hid (HB1.out.below b1 (by omega)); clear d1 b1 HB1)
  obtain ⟨g, hg⟩ : ∃ g, g = w.heap.size + 1 := ⟨_, rfl⟩
  rw [← hg] at D1 z1
  simp only [World.size_alloc, ← hg]
  have hgl : w.heap.size < g := by omega
  clear hg
  (go_wp2_with fail); (go_at_call 62; refine (anyPolicy_c g _ A n1 c1 xs1 _ D1.out (by omega)).mono ?_; rintro e w2 ⟨_, q2, rfl, ⟨A2, n2, c2, qs, y2, rfl, o2, hn2, hl2⟩, d2, e2, f2, g2⟩; have R2 := Lib.hid (R1.out.other g2 (by simp <;> omega)); have O2 := Lib.hid o2; have L2 := Lib.hid hl2; have D2 := Lib.hid d2; have G2 := Lib.hid g2; have hs2 := g2.size; clear d2 g2 o2 hl2 R1 D1)
  have hP2 := Blk.new w2 25 [.slice A2 n2 c2, .int .i64 y2]
  obtain ⟨w3, hw3⟩ : ∃ W, W = w2.alloc (.cells #[.slice A2 n2 c2, .int .i64 y2] 25) := ⟨_, rfl⟩
  have P3 : Hid (Blk w3 w2.heap.size 25 [.slice A2 n2 c2, .int .i64 y2]) := Lib.hid (hw3 ▸ hP2)
  have R3 : Hid (Blk w3 w.heap.size 25 [.slice none 0 0, .int .i64 0]) := Lib.hid (hw3 ▸ R2.out.alloc _)
  have O3 : Hid (OP w3 w1.heap.size w3.heap.size 35 83 A2 n2 c2 qs) := Lib.hid (hw3 ▸ (O2.out.up (Below.alloc (Below.refl _ _) (Nat.le_refl _) _)).wide (Nat.le_refl _) (by simp))
  have D3 : Hid (Dr w3 g 122 q2 A n1 c1 xs1) := Lib.hid (hw3 ▸ D2.out.upto (Below.alloc (Below.refl _ _) (Nat.le_refl _) _))
  have G3 : Hid (w1.grownBy w3 (some g)) := Lib.hid (hw3 ▸ gr_alloc G2.out _)
  have hs3 : w3.heap.size = w2.heap.size + 1 := by rw [hw3]; simp
  have p0 := P3.out.cell (i := 0) rfl
  have z3 : w2.heap.size < w3.heap.size := by omega
  have z3' : w.heap.size < w3.heap.size := by omega
  have z3'' : w1.heap.size ≤ w2.heap.size := by omega
  have hcp2 := O3.out.cap
  unfold maxLen at hcp2
  by_cases hA : 0 < n2 ∧ n2 < 5
  · obtain ⟨hA1, hA2⟩ := hA
    have ha1 : decide ((0 : Int) < (n2 : Int)) = true := by simp; omega
    have ha2 : decide ((n2 : Int) < 5) = true := by simp; omega
    go_wp2_with fail
    rw [← hw3]
    go_at_call 63
    refine (pick_c g _ _ A n1 c1 xs1 _ D3.out (by omega)).mono ?_
    rintro _ w4 ⟨_, q4, rfl, ⟨x4, rfl, l4, u4⟩, d4, e4, f4, g4⟩
    have P4 := Lib.hid (P3.out.other g4 (by simp <;> omega))
    have R4 := Lib.hid (R3.out.other g4 (by simp <;> omega))
    have O4 := Lib.hid (O3.out.top g4 (by omega))
    have D4 := Lib.hid d4
    have G4 := Lib.hid (gr_via G3.out g4)
    have hs4 := g4.size
    clear d4 g4 u4 p0 hw3 hP2
    by_cases hx4 : x4 = 0
    · subst hx4
      have p40 := P4.out.cell (i := 0) rfl
      have z40 : w2.heap.size < w4.heap.size := by omega
      obtain ⟨gA, hgA⟩ : ∃ gA, A2 = some ⟨gA, 0, none⟩ := by
        obtain ⟨gA, _, _, _, hgA, _⟩ := O4.out.at_ (k := 0) (by omega)
        exact ⟨gA, hgA⟩
      subst hgA
      go_upto_region 4 with (fail)
      go_cut [5] (fun v5 wx => ∃ (XB : Nat) (q6 : Rl × Value) (TA : Option Addr) (tc : Nat) (qq : Int), v5 = .pointer (some ⟨XB, 0, none⟩) ∧ w4.heap.size ≤ XB ∧ XB < wx.heap.size ∧ q6.2 = .slice TA q6.1.ts.length tc ∧ q6.1.ts.length ≤ 8 ∧ Hid (Blk wx XB 35 [.int .i64 q6.1.v, .int .i64 q6.1.lo, .int .i64 q6.1.hi, .slice TA q6.1.ts.length tc]) ∧ Hid (TO wx w1.heap.size w4.heap.size 83 q6) ∧ Hid (Blk wx w2.heap.size 25 [.slice (some ⟨gA, 0, none⟩) n2 c2, .int .i64 y2]) ∧ Hid (Blk wx w.heap.size 25 [.slice none 0 0, .int .i64 0]) ∧
        Hid (OP wx w1.heap.size w4.heap.size 35 83 (some ⟨gA, 0, none⟩) n2 c2 qs) ∧ Hid (Dr wx g 122 qq A n1 c1 xs1) ∧ qq ≤ 1300 ∧ Hid (w1.grownBy wx (some g)) ∧ w4.heap.size ≤ wx.heap.size)
      case first =>
        go_region_law (first
          | (go_simp; (go_at_call 63; refine (pick_c g _ _ A n1 c1 xs1 _ (D4.out.upto (by go_grown)) (by omega)).mono ?_; rintro e w5 ⟨_, q5, rfl, ⟨x5, rfl, l5, u5⟩, d5, e5, f5, g5⟩; have v5 := u5 (by omega); have P5 := Lib.hid ((P4.out.up (by go_grown)).other g5 (by simp <;> omega)); have R5 := Lib.hid ((R4.out.up (by go_grown)).other g5 (by simp <;> omega)); have hs5 := g5.size; (try simp at hs5); have O5 := Lib.hid ((O4.out.up (by go_grown)).gr g5 (by omega)); have D5 := Lib.hid d5; have G5 := Lib.hid (gr_via (w := w1) (by (repeat' (first | exact gr_refl _ _ | (with_reducible assumption) | exact Hid.out (by assumption) | refine gr_drew ?_ | refine gr_drewN ?_ _ | refine gr_alloc ?_ _ | refine gr_set ?_ ?_ _ | omega | (simp; omega)))) g5); (try have X5 := Lib.hid ((Blk.new w4 35 [.int .i64 0, .int .i64 0, .int .i64 0, .slice none 0 0]).other g5 (by simp <;> omega))); (try have X5 := Lib.hid ((Blk.new w4 35 [.int .i64 0, .int .i64 0, .int .i64 0, .slice none 0 0]).drew.other g5 (by simp <;> omega))); (try have x50 := X5.out.cell (i := 0) rfl); (try have x51 := X5.out.cell (i := 1) rfl); (try have x52 := X5.out.cell (i := 2) rfl); (try have x53 := X5.out.cell (i := 3) rfl); (try have x5f := X5.out.free); obtain ⟨g6, q6, TA6, tc6, hA6, hg61, hg62, hg63, hq6, hqv6, c60, c61, c62, c63, cf6, hql6⟩ := O5.out.at_ (k := x5.toNat) (by omega); have T5 := Lib.hid (O5.out.tst q6 (List.mem_of_getElem? hq6)); have L5 := L2.out q6 (List.mem_of_getElem? hq6); have QV5 := Lib.hid hqv6; obtain rfl : gA = g6 := (by injection hA6 with hA6; injection hA6); clear hA6; have p50 := P5.out.cell (i := 0) rfl; have z50 : w2.heap.size < w5.heap.size := (by omega); clear d5 g5 u5 hqv6 hq6)))
        all_goals
          go_wp2_with fail
          go_meet
          have hgx : g < w4.heap.size := by omega
          have hpx : w2.heap.size ≠ w4.heap.size := by omega
          have hrx : w.heap.size ≠ w4.heap.size := by have := B1.out.size; omega
          have hwx : w1.heap.size ≤ w4.heap.size := by omega
          first
            | (have hxf := x5f
               have K4 : Keep w5 ((((w5.setCell ⟨w4.heap.size, 0, none⟩ (.int .i64 q6.1.v)).setCell ⟨w4.heap.size, 1, none⟩ (.int .i64 q6.1.lo)).setCell ⟨w4.heap.size, 2, none⟩ (.int .i64 q6.1.hi)).setCell ⟨w4.heap.size, 3, none⟩ (.slice TA6 q6.1.ts.length tc6)) (fun t => t ≠ w4.heap.size) := ((((Keep.refl w5 (fun t => t ≠ w4.heap.size)).set_ _ (fun t ht _ e => ht e.symm)).set_ _ (fun t ht _ e => ht e.symm)).set_ _ (fun t ht _ e => ht e.symm)).set_ _ (fun t ht _ e => ht e.symm)
               exact ⟨w4.heap.size, q6, TA6, tc6, q5, rfl, Nat.le_refl _, by simp; omega, QV5.out, L5, Lib.hid ((((X5.out.set_ 0 (.int .i64 q6.1.v)).set_ 1 (.int .i64 q6.1.lo)).set_ 2 (.int .i64 q6.1.hi)).set_ 3 (.slice TA6 q6.1.ts.length tc6)), Lib.hid (TO.keep T5.out K4 (fun t _ h => by omega)), Lib.hid (K4.blk P5.out hpx), Lib.hid (K4.blk R5.out hrx), Lib.hid (OP.keep O5.out K4 (fun t _ h => by omega)), Lib.hid ((((D5.out.far (a := ⟨w4.heap.size, 0, none⟩) hgx _).far (a := ⟨w4.heap.size, 1, none⟩) hgx _).far (a := ⟨w4.heap.size, 2, none⟩) hgx _).far (a := ⟨w4.heap.size, 3, none⟩) hgx _), by omega, Lib.hid (gr_set (gr_set (gr_set (gr_set G5.out (p := ⟨w4.heap.size, 0, none⟩) (.inr hwx) _) (p := ⟨w4.heap.size, 1, none⟩) (.inr hwx) _) (p := ⟨w4.heap.size, 2, none⟩) (.inr hwx) _) (p := ⟨w4.heap.size, 3, none⟩) (.inr hwx) _), by simp; omega⟩)
            | exact ⟨w5.heap.size, q6, TA6, tc6, q5, rfl, by omega, by simp, QV5.out, L5, Lib.hid (Blk.new w5 35 [.int .i64 q6.1.v, .int .i64 q6.1.lo, .int .i64 q6.1.hi, .slice TA6 q6.1.ts.length tc6]), Lib.hid (T5.out.up (Below.alloc (Below.refl _ _) (Nat.le_refl _) _)), Lib.hid (P5.out.alloc _), Lib.hid (R5.out.alloc _), Lib.hid (O5.out.up (Below.alloc (Below.refl _ _) (Nat.le_refl _) _)), Lib.hid (D5.out.upto (Below.alloc (Below.refl _ _) (Nat.le_refl _) _)), by omega, Lib.hid (gr_alloc G5.out _), by simp; omega⟩
      case rest =>
        obtain ⟨XB, q6, TA6, tc6, q5, rfl, hXB, hXB2, hqv6, hql6, X5, T5, P5, R5, O5, D5, hq5, G5, hs5⟩ := hcut
        rename World => w5
        have HQV := Lib.hid hqv6
        clear hqv6 P4 R4 O4 D4 G4 p40
        (go_wp2_with fail); (go_at_call 63; refine (pick_c g _ _ A n1 c1 xs1 _ D5.out (by omega)).mono ?_; rintro e w6 ⟨_, q6', rfl, ⟨x6, rfl, l6, u6⟩, d6, e6, f6, g6⟩; have v6 := u6 (by omega); have P6 := Lib.hid (P5.out.other g6 (by simp <;> omega)); have R6 := Lib.hid (R5.out.other g6 (by simp <;> omega)); have X6 := Lib.hid (X5.out.other g6 (by simp <;> omega)); have O6 := Lib.hid (O5.out.gr g6 (by omega)); have T6 := Lib.hid (T5.out.keep (Keep.gr g6) (fun t h1 h2 e => by omega)); have D6 := Lib.hid d6; have G6 := Lib.hid (gr_via G5.out g6); have hs6 := g6.size; have x60 := X6.out.cell (i := 0) rfl; have x6f := X6.out.free; clear d6 g6 u6)
        have hw6 : IntKind.i64.wrap (1 + x6) = 1 + x6 := IntWalk.i64_in _ (by omega)
        have K6 : Keep w6 (w6.setCell ⟨XB, 0, none⟩ (.int .i64 (1 + x6))) (fun t => t ≠ XB) := (Keep.refl w6 (fun t => t ≠ XB)).set_ _ (fun t ht _ e => ht e.symm)
        have hpx : w2.heap.size ≠ XB := by omega
        have hrx : w.heap.size ≠ XB := by have := B1.out.size; omega
        have hgx : g < XB := by omega
        (go_wp2_with fail); (go_at_call 63; refine (pick_c g _ _ A n1 c1 xs1 _ (D6.out.far (a := ⟨XB, 0, none⟩) hgx _) (by omega)).mono ?_; rintro e w7 ⟨_, q7, rfl, ⟨x7, rfl, l7, u7⟩, d7, e7, f7, g7⟩; have P7 := Lib.hid ((K6.blk P6.out hpx).other g7 (by simp <;> omega)); have R7 := Lib.hid ((K6.blk R6.out hrx).other g7 (by simp <;> omega)); have X7 := Lib.hid ((X6.out.set_ 0 (.int .i64 (1 + x6))).other g7 (by simp <;> omega)); have O7 := Lib.hid ((OP.keep O6.out K6 (fun t _ h => by omega)).gr g7 (by omega)); have T7 := Lib.hid ((TO.keep T6.out K6 (fun t _ h => by omega)).keep (Keep.gr g7) (fun t h1 h2 e => by omega)); have D7 := Lib.hid d7; have G7 := Lib.hid (gr_via (gr_set G6.out (p := ⟨XB, 0, none⟩) (.inr (by simp <;> omega)) _) g7); have hs7 := g7.size; (try simp at hs7); clear d7 g7 u7)
        have hgA := (O7.out.own.lt gA rfl)
        have hgA2 := O7.out.high gA rfl
        have hne7 := O7.out.ne_blk P7.out (by decide)
        have x70 := X7.out.cell (i := 0) rfl
        have x71 := X7.out.cell (i := 1) rfl
        have x72 := X7.out.cell (i := 2) rfl
        have x73 := X7.out.cell (i := 3) rfl
        have x7f := X7.out.free
        have p70 := P7.out.cell (i := 0) rfl
        have p7f := P7.out.free
        have hp7 : w2.heap.size < w7.heap.size := P7.out.lt
        have hx7 : XB < w7.heap.size := X7.out.lt
        have T7' : Hid (TO w7 w1.heap.size w4.heap.size 83 (⟨1 + x6, q6.1.lo, q6.1.hi, q6.1.ts⟩, .slice TA6 q6.1.ts.length tc6)) := Lib.hid ⟨by have := T7.out.own; rw [HQV.out] at this; exact this, by have := T7.out.high; rw [HQV.out] at this; exact this⟩
        by_cases ha : x7 = 0 ∧ q6.1.ts.length < 4
        · obtain ⟨rfl, ha2⟩ := ha
          have t2 : decide (((q6.1.ts.length : Nat) : Int) < 4) = true := by simp; omega
          have HE := Lib.hid (own_new0 w7 83 w7.heap.size 4 (Nat.le_refl _))
          have HRT : Hid (Rd (w7.alloc (.cells #[] 83)) w7.heap.size 4 TA6 q6.1.ts.length (tsts q6.1.ts)) := Lib.hid ((Rd.of_own (c := tc6) T7'.out.own).below (by go_grown))
          go_wp2_with (at_builtin; go_must (refine wpList_append_rd _ rfl _ _ 33 rfl w7.heap.size 83 j0 _ 4 32 Tryd.underlying33 hj0 hy0 hy1 hy2 rfl (by omega) _ 0 [] rfl HE.out _ TA6 q6.1.ts.length tc6 (tsts q6.1.ts) rfl HRT.out (one_tsts q6.1.ts) (by unfold maxLen; omega) (by omega) (by simp) ?_; intro A8 c8 w8 ho8 hg8 ha8; rw [Nat.zero_add, List.nil_append] at ho8; simp only [Nat.zero_add] at ha8 ⊢; have hs8 := hg8.size; (try simp at hs8); have b8 := below_app (B := w7.heap.size) (w := w7) (by go_grown) hg8 (fun b e => by have := ob_of e; omega) (Nat.le_refl _); have V8 := Lib.hid ho8; have P8 := Lib.hid (P7.out.up b8); have R8 := Lib.hid (R7.out.up b8); have X8 := Lib.hid (X7.out.up b8); have O8 := Lib.hid (O7.out.up b8); have D8 := Lib.hid (D7.out.upto b8); have G8 := Lib.hid (gr_via G7.out (gr_of_below b8 g)); clear ho8 hg8 ha8 b8))
          go_at_call 85
          refine (drawTest_c g _ A n1 c1 xs1 _ D8.out (by omega)).mono ?_
          rintro _ w9 ⟨_, q9, rfl, ⟨tf, tm, tq, tx, rfl⟩, d9, e9, i9, g9⟩
          have V9 := Lib.hid (own_gr V8.out g9 (by omega))
          have P9' := Lib.hid (P8.out.other g9 (by simp <;> omega))
          have R9' := Lib.hid (R8.out.other g9 (by simp <;> omega))
          have X9' := Lib.hid (X8.out.other g9 (by simp <;> omega))
          have O9' := Lib.hid (O8.out.gr g9 (by omega))
          have D9' := Lib.hid d9
          have G9' := Lib.hid (gr_via G8.out g9)
          have hs9 := g9.size
          unfold testV
          clear d9 g9
          have hob : ∀ b, (Value.slice A8 q6.1.ts.length c8).ownBlock = some b → w7.heap.size ≤ b := fun b hb => (V9.out.lt b hb).1
          have HOB := Lib.hid hob
          clear hob
          go_upto_region 8 with (at_builtin; go_must (refine wpList_append_rd _ rfl _ _ 33 rfl w7.heap.size 83 j0 _ 4 32 Tryd.underlying33 hj0 hy0 hy1 hy2 rfl (by omega) (.slice A8 q6.1.ts.length c8) q6.1.ts.length (tsts q6.1.ts) rfl (V9.out.alloc _) _ (some ⟨w9.heap.size, 0, none⟩) 1 1 _ rfl (rd_tst w9 ⟨tf, tm, tq, tx⟩ _) (one_cells _) (by unfold maxLen; omega) (by omega) (by simp; omega) ?_; intro A10 c10 w10 ho10 hg10 ha10; have hs10 := hg10.size; (try simp at hs10); have V10 := Lib.hid ho10; have K10 : Keep w9 w10 (fun t => t < w7.heap.size) := ((Keep.refl w9 (fun t => t < w7.heap.size)).upA _).grown hg10 (fun t ht _ e => by have := HOB.out _ e; omega); have P10 := Lib.hid (K10.blk P9'.out (by omega)); have R10 := Lib.hid (K10.blk R9'.out (by have := B1.out.size; omega)); have X10 := Lib.hid (K10.blk X9'.out (by omega)); have O10' := Lib.hid (OP.keep O9'.out K10 (fun t _ h => by omega)); have D10 := Lib.hid ((D9'.out.upto (Below.alloc (Below.refl _ _) (Nat.le_refl _) _)).other hg10 (fun b e => by have := HOB.out _ e; omega)); have G10 := Lib.hid (gr_grown (gr_alloc G9'.out _) hg10 (fun b e => .inr (by have := HOB.out _ e; omega))); have x103 := X10.out.cell (i := 3) rfl; have x10f := X10.out.free; clear ho10 hg10 ha10))
          have X11 := Lib.hid (X10.out.set_ 3 (.slice A10 (q6.1.ts.length + 1) c10))
          have K11 : Keep w10 (w10.setCell ⟨XB, 3, none⟩ (.slice A10 (q6.1.ts.length + 1) c10)) (fun t => t ≠ XB) := (Keep.refl w10 (fun t => t ≠ XB)).set_ _ (fun t ht _ e => ht e.symm)
          have P11 := Lib.hid (K11.blk P10.out hpx)
          have R11 := Lib.hid (K11.blk R10.out hrx)
          have O11 := Lib.hid (OP.keep O10'.out K11 (fun t _ h => by omega))
          have D11 := Lib.hid (D10.out.far (a := ⟨XB, 3, none⟩) hgx (.slice A10 (q6.1.ts.length + 1) c10))
          have G11 := Lib.hid (gr_set G10.out (p := ⟨XB, 3, none⟩) (.inr (by simp <;> omega)) (.slice A10 (q6.1.ts.length + 1) c10))
          have T11 : Hid (TO (w10.setCell ⟨XB, 3, none⟩ (.slice A10 (q6.1.ts.length + 1) c10)) w1.heap.size w10.heap.size 83 (⟨1 + x6, q6.1.lo, q6.1.hi, q6.1.ts ++ [⟨tf, tm, tq, tx⟩]⟩, .slice A10 (q6.1.ts.length + 1) c10)) := Lib.hid ⟨by
            have h := ownsRow_setCell_below (V10.out) (a := ⟨XB, 3, none⟩) (by simp <;> omega) (.slice A10 (q6.1.ts.length + 1) c10)
            have e : (q6.1.ts ++ [(⟨tf, tm, tq, tx⟩ : Tst)]).length = q6.1.ts.length + 1 := by simp
            show World.ownsRow _ _ _ _ _ (q6.1.ts ++ [(⟨tf, tm, tq, tx⟩ : Tst)]).length (tsts (q6.1.ts ++ [(⟨tf, tm, tq, tx⟩ : Tst)]))
            rw [e, tsts_add]
            exact own_base h (by omega), fun b hb => (V10.out.lt b hb).2⟩
          have hs11 : (w10.setCell ⟨XB, 3, none⟩ (.slice A10 (q6.1.ts.length + 1) c10)).heap.size = w10.heap.size := by simp
          obtain ⟨w11, hw11⟩ : ∃ W, W = w10.setCell ⟨XB, 3, none⟩ (.slice A10 (q6.1.ts.length + 1) c10) := ⟨_, rfl⟩
          rw [← hw11] at X11 P11 R11 O11 D11 G11 T11 hs11 ⊢
          have hs11a : w11.heap.size ≤ w10.heap.size := Nat.le_of_eq hs11
          have hs11b : w10.heap.size ≤ w11.heap.size := Nat.le_of_eq hs11.symm
          clear hs11 hw11 K11 K10 x70 x71 x72 x73 x7f p70 p7f x103 x10f
          have x110 := X11.out.cell (i := 0) rfl
          have x111 := X11.out.cell (i := 1) rfl
          have x112 := X11.out.cell (i := 2) rfl
          have x113 := X11.out.cell (i := 3) rfl
          have p70 := P11.out.cell (i := 0) rfl
          have p7f := P11.out.free
          have HCC : Hid (Rd (w11.alloc (.cells #[.int .i64 (1 + x6), .int .i64 q6.1.lo, .int .i64 q6.1.hi, .slice A10 (q6.1.ts.length + 1) c10] 35)) (w11.heap.size + 1) 4 (some ⟨w11.heap.size, 0, none⟩) 1 (rcells [((⟨1 + x6, q6.1.lo, q6.1.hi, q6.1.ts ++ [⟨tf, tm, tq, tx⟩]⟩ : Rl), (.slice A10 (q6.1.ts.length + 1) c10 : Value))])) := Lib.hid (rd_new (w := w11) rfl 35 4 1 (rcells [((⟨1 + x6, q6.1.lo, q6.1.hi, q6.1.ts ++ [⟨tf, tm, tq, tx⟩]⟩ : Rl), (.slice A10 (q6.1.ts.length + 1) c10 : Value))]) rfl)
          have HTW := Lib.hid (T11.out.up (w' := w11.alloc (.cells #[.int .i64 (1 + x6), .int .i64 q6.1.lo, .int .i64 q6.1.hi, .slice A10 (q6.1.ts.length + 1) c10] 35)) (by go_grown))
          have HOW := Lib.hid (O11.out.up (w' := w11.alloc (.cells #[.int .i64 (1 + x6), .int .i64 q6.1.lo, .int .i64 q6.1.hi, .slice A10 (q6.1.ts.length + 1) c10] 35)) (by go_grown))
          have hPW := P11.out.alloc (.cells #[.int .i64 (1 + x6), .int .i64 q6.1.lo, .int .i64 q6.1.hi, .slice A10 (q6.1.ts.length + 1) c10] 35)
          have hRW := R11.out.alloc (.cells #[.int .i64 (1 + x6), .int .i64 q6.1.lo, .int .i64 q6.1.hi, .slice A10 (q6.1.ts.length + 1) c10] 35)
          have HPW := Lib.hid hPW
          have HRW := Lib.hid hRW
          clear hPW hRW
          go_wp2_with (at_builtin; go_must (refine wpList_append_rd _ rfl _ _ 23 rfl w1.heap.size 35 i0 _ 4 48 Tryd.underlying23 hi0 hz0 hz1 hz2 rfl (by omega) (.slice (some ⟨gA, 0, none⟩) n2 c2) n2 (rcells qs) rfl HOW.out.own _ (some ⟨w11.heap.size, 0, none⟩) 1 1 _ rfl HCC.out (one_rcells (fun x hx => by rw [List.mem_singleton.1 hx]; exact HTW.out)) (by unfold maxLen; omega) (by omega) (by simp; omega) ?_; intro A12 c12 w12 ho12 hg12 ha12; have hs12 := hg12.size; (try simp at hs12); have O12 := Lib.hid (HOW.out.app (by decide) (hi' := w12.heap.size) (fun x hx => by rw [List.mem_singleton.1 hx]; exact HTW.out.wide (Nat.le_refl _) (by omega)) (by omega) ho12 hg12 (Nat.le_refl _)); have P12 := Lib.hid (HPW.out.gn hg12 (fun e => by have := ob_of e; omega)); have R12 := Lib.hid (HRW.out.gn hg12 (fun e => by have := ob_of e; omega)); have D12 := Lib.hid ((D11.out.upto (Below.alloc (Below.refl _ _) (Nat.le_refl _) _)).other hg12 (fun b e => by have := ob_of e; omega)); have G12 := Lib.hid (gr_grown (gr_alloc G11.out _) hg12 (fun b e => .inr (by have := ob_of e; omega))); have p120 := P12.out.cell (i := 0) rfl; have p12f := P12.out.free; clear ho12 hg12 ha12))
          have P13 := Lib.hid (P12.out.set_ 0 (.slice A12 (n2 + 1) c12))
          have R13 := Lib.hid (R12.out.far (p := ⟨w2.heap.size, 0, none⟩) (show w.heap.size ≠ w2.heap.size by have := B1.out.size; omega) (.slice A12 (n2 + 1) c12))
          have O13 := Lib.hid ((O12.out.setB (o := 0) P12.out (by decide) (by decide) (.slice A12 (n2 + 1) c12)).wide (Nat.le_refl _) (show w12.heap.size ≤ (w12.setCell ⟨w2.heap.size, 0, none⟩ (.slice A12 (n2 + 1) c12)).heap.size by simp))
          have D13 := Lib.hid (D12.out.far (a := ⟨w2.heap.size, 0, none⟩) (show g < w2.heap.size by omega) (.slice A12 (n2 + 1) c12))
          have G13 := Lib.hid (gr_set G12.out (p := ⟨w2.heap.size, 0, none⟩) (.inr z3'') (.slice A12 (n2 + 1) c12))
          have L13 := Lib.hid (ls_add L2.out (q := ((⟨1 + x6, q6.1.lo, q6.1.hi, q6.1.ts ++ [⟨tf, tm, tq, tx⟩]⟩ : Rl), (.slice A10 (q6.1.ts.length + 1) c10 : Value))) (show _ ≤ 8 by simp; omega))
          clear p70 p7f
          have p0 := P13.out.cell (i := 0) rfl
          have p1 := P13.out.cell (i := 1) rfl
          have pf := P13.out.free
          have r0 := R13.out.cell (i := 0) rfl
          have r1 := R13.out.cell (i := 1) rfl
          have rf := R13.out.free
          have m1 : w.heap.size ≠ w2.heap.size := by have := B1.out.size; omega
          have m2 : w2.heap.size ≠ w.heap.size := by have := B1.out.size; omega
          have hcp := O13.out.cap
          unfold maxLen at hcp
          have hg0 : decide ((0 : Int) < (((n2 + 1) : Nat) : Int)) = true := by simp <;> omega
          clear p0 p1 pf r0 r1 rf
          have p0 := P13.out.cell (i := 0) rfl
          (go_wp2_with fail); (go_at_call 63; refine (pick_c g _ _ A n1 c1 xs1 _ D13.out (by omega)).mono ?_; rintro e w9 ⟨_, q9, rfl, ⟨x9, rfl, l9, u9⟩, d9, e9, f9, g9⟩; have P9 := Lib.hid (P13.out.other g9 (by simp <;> omega)); have R9 := Lib.hid (R13.out.other g9 (by simp <;> omega)); have O9 := Lib.hid (O13.out.top g9 (by omega)); have G9 := Lib.hid (gr_via G13.out g9); have hs9 := g9.size; clear d9 g9 u9)
          clear p0
          have p0 := P9.out.cell (i := 0) rfl
          have p1 := P9.out.cell (i := 1) rfl
          have pf := P9.out.free
          have r0 := R9.out.cell (i := 0) rfl
          have r1 := R9.out.cell (i := 1) rfl
          have rf := R9.out.free
          by_cases hx9 : x9 = 0
          · subst hx9
            obtain ⟨g8, q8, TA8, tc8, hA8, hg81, hg82, hg83, hq8, hqv8, c80, _, _, _, cf8, _⟩ := O9.out.at_ (k := n2) (by omega)
            subst hA8
            have hne8 := O9.out.ne_blk P9.out (by decide)
            have hne9 : g8 ≠ w.heap.size := by have := B1.out.size; omega
            have hne80 := Ne.symm hne8
            have hne90 := Ne.symm hne9
            have i8 : ((((n2 + 1) : Nat) : Int) - 1).toNat = n2 := by omega
            have i80 : (0 : Int) ≤ (((n2 + 1) : Nat) : Int) - 1 := by omega
            have i81 : (((n2 + 1) : Nat) : Int) - 1 < (((n2 + 1) : Nat) : Int) := by omega
            have O10 := Lib.hid (O9.out.put1 (by decide) hq8 y2)
            have L10 := Lib.hid (ls_setT L13.out hq8 (q := (⟨y2, q8.1.lo, q8.1.hi, q8.1.ts⟩, q8.2)) rfl)
            clear hq8 hqv8
            have Gx := Lib.hid (gr_set G9.out (p := ⟨g8, n2 * 4, none⟩) (.inr (by simp <;> omega)) (.int .i64 y2))
            go_wp2
            refine bodyPost_ret (v := .agg #[.slice (some ⟨g8, 0, none⟩) (n2 + 1) c12, .int .i64 y2]) (by simp [results, Tryd.results36, go_sem, p0, p1, pf, r0, r1, rf, m1, m2, hne8, hne9, hne80, hne90]) rfl ?_
            go_light
            have hb := B1.out.trans (gr_below Gx.out (by omega) (by have := B1.out.size; omega))
            refine ⟨(some ⟨g8, 0, none⟩), (n2 + 1), c12, _, y2, rfl, ?_, by omega, L10.out, ?_⟩
            · refine OP.wide (lo := w1.heap.size) (hi := w9.heap.size) ?_ (by have := B1.out.size; omega) (by (try simp) <;> omega)
              repeat (first | exact O10.out | refine OP.set_ ?_ (.inl (by have := B1.out.size; omega)) _ | refine OP.up ?_ (Below.alloc (Below.refl _ _) (Nat.le_refl _) _))
            · repeat (first | exact hb | refine Below.setCell ?_ (by (try simp) <;> omega) _ | refine Below.alloc ?_ (by (try simp) <;> omega) _)
          · have hx9' : ((x9 : Int) == 0) = false := by simpa using hx9
            clear hx9
            go_wp2
            refine bodyPost_ret (v := .agg #[.slice A12 (n2 + 1) c12, .int .i64 y2]) (by simp [results, Tryd.results36, go_sem, p0, p1, pf, r0, r1, rf, m1, m2]) rfl ?_
            go_light
            have hb := B1.out.trans (gr_below G9.out (by omega) (by have := B1.out.size; omega))
            refine ⟨A12, (n2 + 1), c12, (qs ++ [((⟨1 + x6, q6.1.lo, q6.1.hi, q6.1.ts ++ [⟨tf, tm, tq, tx⟩]⟩ : Rl), (.slice A10 (q6.1.ts.length + 1) c10 : Value))]), y2, rfl, ?_, by omega, L13.out, ?_⟩
            · refine OP.wide (lo := w1.heap.size) (hi := w9.heap.size) ?_ (by have := B1.out.size; omega) (by (try simp) <;> omega)
              repeat (first | exact O9.out | refine OP.set_ ?_ (.inl (by have := B1.out.size; omega)) _ | refine OP.up ?_ (Below.alloc (Below.refl _ _) (Nat.le_refl _) _))
            · repeat (first | exact hb | refine Below.setCell ?_ (by (try simp) <;> omega) _ | refine Below.alloc ?_ (by (try simp) <;> omega) _)
        · by_cases ha1 : x7 = 0
          · subst ha1
            have t2 : decide (((q6.1.ts.length : Nat) : Int) < 4) = false := by simp; omega
            clear ha
            have HCC : Hid (Rd (w7.alloc (.cells #[.int .i64 (1 + x6), .int .i64 q6.1.lo, .int .i64 q6.1.hi, .slice TA6 q6.1.ts.length tc6] 35)) (w7.heap.size + 1) 4 (some ⟨w7.heap.size, 0, none⟩) 1 (rcells [((⟨1 + x6, q6.1.lo, q6.1.hi, q6.1.ts⟩ : Rl), (.slice TA6 q6.1.ts.length tc6 : Value))])) := Lib.hid (rd_new (w := w7) rfl 35 4 1 (rcells [((⟨1 + x6, q6.1.lo, q6.1.hi, q6.1.ts⟩ : Rl), (.slice TA6 q6.1.ts.length tc6 : Value))]) rfl)
            have HTW := Lib.hid (T7'.out.up (w' := w7.alloc (.cells #[.int .i64 (1 + x6), .int .i64 q6.1.lo, .int .i64 q6.1.hi, .slice TA6 q6.1.ts.length tc6] 35)) (by go_grown))
            have HOW := Lib.hid (O7.out.up (w' := w7.alloc (.cells #[.int .i64 (1 + x6), .int .i64 q6.1.lo, .int .i64 q6.1.hi, .slice TA6 q6.1.ts.length tc6] 35)) (by go_grown))
            have hPW := P7.out.alloc (.cells #[.int .i64 (1 + x6), .int .i64 q6.1.lo, .int .i64 q6.1.hi, .slice TA6 q6.1.ts.length tc6] 35)
            have hRW := R7.out.alloc (.cells #[.int .i64 (1 + x6), .int .i64 q6.1.lo, .int .i64 q6.1.hi, .slice TA6 q6.1.ts.length tc6] 35)
            have HPW := Lib.hid hPW
            have HRW := Lib.hid hRW
            clear hPW hRW
            go_wp2_with (at_builtin; go_must (refine wpList_append_rd _ rfl _ _ 23 rfl w1.heap.size 35 i0 _ 4 48 Tryd.underlying23 hi0 hz0 hz1 hz2 rfl (by omega) (.slice (some ⟨gA, 0, none⟩) n2 c2) n2 (rcells qs) rfl HOW.out.own _ (some ⟨w7.heap.size, 0, none⟩) 1 1 _ rfl HCC.out (one_rcells (fun x hx => by rw [List.mem_singleton.1 hx]; exact HTW.out)) (by unfold maxLen; omega) (by omega) (by simp; omega) ?_; intro A12 c12 w12 ho12 hg12 ha12; have hs12 := hg12.size; (try simp at hs12); have O12 := Lib.hid (HOW.out.app (by decide) (hi' := w12.heap.size) (fun x hx => by rw [List.mem_singleton.1 hx]; exact HTW.out.wide (Nat.le_refl _) (by omega)) (by omega) ho12 hg12 (Nat.le_refl _)); have P12 := Lib.hid (HPW.out.gn hg12 (fun e => by have := ob_of e; omega)); have R12 := Lib.hid (HRW.out.gn hg12 (fun e => by have := ob_of e; omega)); have D12 := Lib.hid ((D7.out.upto (Below.alloc (Below.refl _ _) (Nat.le_refl _) _)).other hg12 (fun b e => by have := ob_of e; omega)); have G12 := Lib.hid (gr_grown (gr_alloc G7.out _) hg12 (fun b e => .inr (by have := ob_of e; omega))); have p120 := P12.out.cell (i := 0) rfl; have p12f := P12.out.free; clear ho12 hg12 ha12))
            have P13 := Lib.hid (P12.out.set_ 0 (.slice A12 (n2 + 1) c12))
            have R13 := Lib.hid (R12.out.far (p := ⟨w2.heap.size, 0, none⟩) (show w.heap.size ≠ w2.heap.size by have := B1.out.size; omega) (.slice A12 (n2 + 1) c12))
            have O13 := Lib.hid ((O12.out.setB (o := 0) P12.out (by decide) (by decide) (.slice A12 (n2 + 1) c12)).wide (Nat.le_refl _) (show w12.heap.size ≤ (w12.setCell ⟨w2.heap.size, 0, none⟩ (.slice A12 (n2 + 1) c12)).heap.size by simp))
            have D13 := Lib.hid (D12.out.far (a := ⟨w2.heap.size, 0, none⟩) (show g < w2.heap.size by omega) (.slice A12 (n2 + 1) c12))
            have G13 := Lib.hid (gr_set G12.out (p := ⟨w2.heap.size, 0, none⟩) (.inr z3'') (.slice A12 (n2 + 1) c12))
            have L13 := Lib.hid (ls_add L2.out (q := ((⟨1 + x6, q6.1.lo, q6.1.hi, q6.1.ts⟩ : Rl), (.slice TA6 q6.1.ts.length tc6 : Value))) (show _ ≤ 8 by exact hql6))
            clear p70 p7f
            have p0 := P13.out.cell (i := 0) rfl
            have p1 := P13.out.cell (i := 1) rfl
            have pf := P13.out.free
            have r0 := R13.out.cell (i := 0) rfl
            have r1 := R13.out.cell (i := 1) rfl
            have rf := R13.out.free
            have m1 : w.heap.size ≠ w2.heap.size := by have := B1.out.size; omega
            have m2 : w2.heap.size ≠ w.heap.size := by have := B1.out.size; omega
            have hcp := O13.out.cap
            unfold maxLen at hcp
            have hg0 : decide ((0 : Int) < (((n2 + 1) : Nat) : Int)) = true := by simp <;> omega
            clear p0 p1 pf r0 r1 rf
            have p0 := P13.out.cell (i := 0) rfl
            (go_wp2_with fail); (go_at_call 63; refine (pick_c g _ _ A n1 c1 xs1 _ D13.out (by omega)).mono ?_; rintro e w9 ⟨_, q9, rfl, ⟨x9, rfl, l9, u9⟩, d9, e9, f9, g9⟩; have P9 := Lib.hid (P13.out.other g9 (by simp <;> omega)); have R9 := Lib.hid (R13.out.other g9 (by simp <;> omega)); have O9 := Lib.hid (O13.out.top g9 (by omega)); have G9 := Lib.hid (gr_via G13.out g9); have hs9 := g9.size; clear d9 g9 u9)
            clear p0
            have p0 := P9.out.cell (i := 0) rfl
            have p1 := P9.out.cell (i := 1) rfl
            have pf := P9.out.free
            have r0 := R9.out.cell (i := 0) rfl
            have r1 := R9.out.cell (i := 1) rfl
            have rf := R9.out.free
            by_cases hx9 : x9 = 0
            · subst hx9
              obtain ⟨g8, q8, TA8, tc8, hA8, hg81, hg82, hg83, hq8, hqv8, c80, _, _, _, cf8, _⟩ := O9.out.at_ (k := n2) (by omega)
              subst hA8
              have hne8 := O9.out.ne_blk P9.out (by decide)
              have hne9 : g8 ≠ w.heap.size := by have := B1.out.size; omega
              have hne80 := Ne.symm hne8
              have hne90 := Ne.symm hne9
              have i8 : ((((n2 + 1) : Nat) : Int) - 1).toNat = n2 := by omega
              have i80 : (0 : Int) ≤ (((n2 + 1) : Nat) : Int) - 1 := by omega
              have i81 : (((n2 + 1) : Nat) : Int) - 1 < (((n2 + 1) : Nat) : Int) := by omega
              have O10 := Lib.hid (O9.out.put1 (by decide) hq8 y2)
              have L10 := Lib.hid (ls_setT L13.out hq8 (q := (⟨y2, q8.1.lo, q8.1.hi, q8.1.ts⟩, q8.2)) rfl)
              clear hq8 hqv8
              have Gx := Lib.hid (gr_set G9.out (p := ⟨g8, n2 * 4, none⟩) (.inr (by simp <;> omega)) (.int .i64 y2))
              go_wp2
              refine bodyPost_ret (v := .agg #[.slice (some ⟨g8, 0, none⟩) (n2 + 1) c12, .int .i64 y2]) (by simp [results, Tryd.results36, go_sem, p0, p1, pf, r0, r1, rf, m1, m2, hne8, hne9, hne80, hne90]) rfl ?_
              go_light
              have hb := B1.out.trans (gr_below Gx.out (by omega) (by have := B1.out.size; omega))
              refine ⟨(some ⟨g8, 0, none⟩), (n2 + 1), c12, _, y2, rfl, ?_, by omega, L10.out, ?_⟩
              · refine OP.wide (lo := w1.heap.size) (hi := w9.heap.size) ?_ (by have := B1.out.size; omega) (by (try simp) <;> omega)
                repeat (first | exact O10.out | refine OP.set_ ?_ (.inl (by have := B1.out.size; omega)) _ | refine OP.up ?_ (Below.alloc (Below.refl _ _) (Nat.le_refl _) _))
              · repeat (first | exact hb | refine Below.setCell ?_ (by (try simp) <;> omega) _ | refine Below.alloc ?_ (by (try simp) <;> omega) _)
            · have hx9' : ((x9 : Int) == 0) = false := by simpa using hx9
              clear hx9
              go_wp2
              refine bodyPost_ret (v := .agg #[.slice A12 (n2 + 1) c12, .int .i64 y2]) (by simp [results, Tryd.results36, go_sem, p0, p1, pf, r0, r1, rf, m1, m2]) rfl ?_
              go_light
              have hb := B1.out.trans (gr_below G9.out (by omega) (by have := B1.out.size; omega))
              refine ⟨A12, (n2 + 1), c12, (qs ++ [((⟨1 + x6, q6.1.lo, q6.1.hi, q6.1.ts⟩ : Rl), (.slice TA6 q6.1.ts.length tc6 : Value))]), y2, rfl, ?_, by omega, L13.out, ?_⟩
              · refine OP.wide (lo := w1.heap.size) (hi := w9.heap.size) ?_ (by have := B1.out.size; omega) (by (try simp) <;> omega)
                repeat (first | exact O9.out | refine OP.set_ ?_ (.inl (by have := B1.out.size; omega)) _ | refine OP.up ?_ (Below.alloc (Below.refl _ _) (Nat.le_refl _) _))
              · repeat (first | exact hb | refine Below.setCell ?_ (by (try simp) <;> omega) _ | refine Below.alloc ?_ (by (try simp) <;> omega) _)
          · have t1 : ((x7 : Int) == 0) = false := by simpa using ha1
            clear ha ha1
            have HCC : Hid (Rd (w7.alloc (.cells #[.int .i64 (1 + x6), .int .i64 q6.1.lo, .int .i64 q6.1.hi, .slice TA6 q6.1.ts.length tc6] 35)) (w7.heap.size + 1) 4 (some ⟨w7.heap.size, 0, none⟩) 1 (rcells [((⟨1 + x6, q6.1.lo, q6.1.hi, q6.1.ts⟩ : Rl), (.slice TA6 q6.1.ts.length tc6 : Value))])) := Lib.hid (rd_new (w := w7) rfl 35 4 1 (rcells [((⟨1 + x6, q6.1.lo, q6.1.hi, q6.1.ts⟩ : Rl), (.slice TA6 q6.1.ts.length tc6 : Value))]) rfl)
            have HTW := Lib.hid (T7'.out.up (w' := w7.alloc (.cells #[.int .i64 (1 + x6), .int .i64 q6.1.lo, .int .i64 q6.1.hi, .slice TA6 q6.1.ts.length tc6] 35)) (by go_grown))
            have HOW := Lib.hid (O7.out.up (w' := w7.alloc (.cells #[.int .i64 (1 + x6), .int .i64 q6.1.lo, .int .i64 q6.1.hi, .slice TA6 q6.1.ts.length tc6] 35)) (by go_grown))
            have hPW := P7.out.alloc (.cells #[.int .i64 (1 + x6), .int .i64 q6.1.lo, .int .i64 q6.1.hi, .slice TA6 q6.1.ts.length tc6] 35)
            have hRW := R7.out.alloc (.cells #[.int .i64 (1 + x6), .int .i64 q6.1.lo, .int .i64 q6.1.hi, .slice TA6 q6.1.ts.length tc6] 35)
            have HPW := Lib.hid hPW
            have HRW := Lib.hid hRW
            clear hPW hRW
            go_wp2_with (at_builtin; go_must (refine wpList_append_rd _ rfl _ _ 23 rfl w1.heap.size 35 i0 _ 4 48 Tryd.underlying23 hi0 hz0 hz1 hz2 rfl (by omega) (.slice (some ⟨gA, 0, none⟩) n2 c2) n2 (rcells qs) rfl HOW.out.own _ (some ⟨w7.heap.size, 0, none⟩) 1 1 _ rfl HCC.out (one_rcells (fun x hx => by rw [List.mem_singleton.1 hx]; exact HTW.out)) (by unfold maxLen; omega) (by omega) (by simp; omega) ?_; intro A12 c12 w12 ho12 hg12 ha12; have hs12 := hg12.size; (try simp at hs12); have O12 := Lib.hid (HOW.out.app (by decide) (hi' := w12.heap.size) (fun x hx => by rw [List.mem_singleton.1 hx]; exact HTW.out.wide (Nat.le_refl _) (by omega)) (by omega) ho12 hg12 (Nat.le_refl _)); have P12 := Lib.hid (HPW.out.gn hg12 (fun e => by have := ob_of e; omega)); have R12 := Lib.hid (HRW.out.gn hg12 (fun e => by have := ob_of e; omega)); have D12 := Lib.hid ((D7.out.upto (Below.alloc (Below.refl _ _) (Nat.le_refl _) _)).other hg12 (fun b e => by have := ob_of e; omega)); have G12 := Lib.hid (gr_grown (gr_alloc G7.out _) hg12 (fun b e => .inr (by have := ob_of e; omega))); have p120 := P12.out.cell (i := 0) rfl; have p12f := P12.out.free; clear ho12 hg12 ha12))
            have P13 := Lib.hid (P12.out.set_ 0 (.slice A12 (n2 + 1) c12))
            have R13 := Lib.hid (R12.out.far (p := ⟨w2.heap.size, 0, none⟩) (show w.heap.size ≠ w2.heap.size by have := B1.out.size; omega) (.slice A12 (n2 + 1) c12))
            have O13 := Lib.hid ((O12.out.setB (o := 0) P12.out (by decide) (by decide) (.slice A12 (n2 + 1) c12)).wide (Nat.le_refl _) (show w12.heap.size ≤ (w12.setCell ⟨w2.heap.size, 0, none⟩ (.slice A12 (n2 + 1) c12)).heap.size by simp))
            have D13 := Lib.hid (D12.out.far (a := ⟨w2.heap.size, 0, none⟩) (show g < w2.heap.size by omega) (.slice A12 (n2 + 1) c12))
            have G13 := Lib.hid (gr_set G12.out (p := ⟨w2.heap.size, 0, none⟩) (.inr z3'') (.slice A12 (n2 + 1) c12))
            have L13 := Lib.hid (ls_add L2.out (q := ((⟨1 + x6, q6.1.lo, q6.1.hi, q6.1.ts⟩ : Rl), (.slice TA6 q6.1.ts.length tc6 : Value))) (show _ ≤ 8 by exact hql6))
            clear p70 p7f
            have p0 := P13.out.cell (i := 0) rfl
            have p1 := P13.out.cell (i := 1) rfl
            have pf := P13.out.free
            have r0 := R13.out.cell (i := 0) rfl
            have r1 := R13.out.cell (i := 1) rfl
            have rf := R13.out.free
            have m1 : w.heap.size ≠ w2.heap.size := by have := B1.out.size; omega
            have m2 : w2.heap.size ≠ w.heap.size := by have := B1.out.size; omega
            have hcp := O13.out.cap
            unfold maxLen at hcp
            have hg0 : decide ((0 : Int) < (((n2 + 1) : Nat) : Int)) = true := by simp <;> omega
            clear p0 p1 pf r0 r1 rf
            have p0 := P13.out.cell (i := 0) rfl
            (go_wp2_with fail); (go_at_call 63; refine (pick_c g _ _ A n1 c1 xs1 _ D13.out (by omega)).mono ?_; rintro e w9 ⟨_, q9, rfl, ⟨x9, rfl, l9, u9⟩, d9, e9, f9, g9⟩; have P9 := Lib.hid (P13.out.other g9 (by simp <;> omega)); have R9 := Lib.hid (R13.out.other g9 (by simp <;> omega)); have O9 := Lib.hid (O13.out.top g9 (by omega)); have G9 := Lib.hid (gr_via G13.out g9); have hs9 := g9.size; clear d9 g9 u9)
            clear p0
            have p0 := P9.out.cell (i := 0) rfl
            have p1 := P9.out.cell (i := 1) rfl
            have pf := P9.out.free
            have r0 := R9.out.cell (i := 0) rfl
            have r1 := R9.out.cell (i := 1) rfl
            have rf := R9.out.free
            by_cases hx9 : x9 = 0
            · subst hx9
              obtain ⟨g8, q8, TA8, tc8, hA8, hg81, hg82, hg83, hq8, hqv8, c80, _, _, _, cf8, _⟩ := O9.out.at_ (k := n2) (by omega)
              subst hA8
              have hne8 := O9.out.ne_blk P9.out (by decide)
              have hne9 : g8 ≠ w.heap.size := by have := B1.out.size; omega
              have hne80 := Ne.symm hne8
              have hne90 := Ne.symm hne9
              have i8 : ((((n2 + 1) : Nat) : Int) - 1).toNat = n2 := by omega
              have i80 : (0 : Int) ≤ (((n2 + 1) : Nat) : Int) - 1 := by omega
              have i81 : (((n2 + 1) : Nat) : Int) - 1 < (((n2 + 1) : Nat) : Int) := by omega
              have O10 := Lib.hid (O9.out.put1 (by decide) hq8 y2)
              have L10 := Lib.hid (ls_setT L13.out hq8 (q := (⟨y2, q8.1.lo, q8.1.hi, q8.1.ts⟩, q8.2)) rfl)
              clear hq8 hqv8
              have Gx := Lib.hid (gr_set G9.out (p := ⟨g8, n2 * 4, none⟩) (.inr (by simp <;> omega)) (.int .i64 y2))
              go_wp2
              refine bodyPost_ret (v := .agg #[.slice (some ⟨g8, 0, none⟩) (n2 + 1) c12, .int .i64 y2]) (by simp [results, Tryd.results36, go_sem, p0, p1, pf, r0, r1, rf, m1, m2, hne8, hne9, hne80, hne90]) rfl ?_
              go_light
              have hb := B1.out.trans (gr_below Gx.out (by omega) (by have := B1.out.size; omega))
              refine ⟨(some ⟨g8, 0, none⟩), (n2 + 1), c12, _, y2, rfl, ?_, by omega, L10.out, ?_⟩
              · refine OP.wide (lo := w1.heap.size) (hi := w9.heap.size) ?_ (by have := B1.out.size; omega) (by (try simp) <;> omega)
                repeat (first | exact O10.out | refine OP.set_ ?_ (.inl (by have := B1.out.size; omega)) _ | refine OP.up ?_ (Below.alloc (Below.refl _ _) (Nat.le_refl _) _))
              · repeat (first | exact hb | refine Below.setCell ?_ (by (try simp) <;> omega) _ | refine Below.alloc ?_ (by (try simp) <;> omega) _)
            · have hx9' : ((x9 : Int) == 0) = false := by simpa using hx9
              clear hx9
              go_wp2
              refine bodyPost_ret (v := .agg #[.slice A12 (n2 + 1) c12, .int .i64 y2]) (by simp [results, Tryd.results36, go_sem, p0, p1, pf, r0, r1, rf, m1, m2]) rfl ?_
              go_light
              have hb := B1.out.trans (gr_below G9.out (by omega) (by have := B1.out.size; omega))
              refine ⟨A12, (n2 + 1), c12, (qs ++ [((⟨1 + x6, q6.1.lo, q6.1.hi, q6.1.ts⟩ : Rl), (.slice TA6 q6.1.ts.length tc6 : Value))]), y2, rfl, ?_, by omega, L13.out, ?_⟩
              · refine OP.wide (lo := w1.heap.size) (hi := w9.heap.size) ?_ (by have := B1.out.size; omega) (by (try simp) <;> omega)
                repeat (first | exact O9.out | refine OP.set_ ?_ (.inl (by have := B1.out.size; omega)) _ | refine OP.up ?_ (Below.alloc (Below.refl _ _) (Nat.le_refl _) _))
              · repeat (first | exact hb | refine Below.setCell ?_ (by (try simp) <;> omega) _ | refine Below.alloc ?_ (by (try simp) <;> omega) _)
    · have hx4' : ((x4 : Int) == 0) = false := by simpa using hx4
      clear hx4
      have p0 := P4.out.cell (i := 0) rfl
      have p1 := P4.out.cell (i := 1) rfl
      have pf := P4.out.free
      have r0 := R4.out.cell (i := 0) rfl
      have r1 := R4.out.cell (i := 1) rfl
      have rf := R4.out.free
      have m1 : w.heap.size ≠ w2.heap.size := by have := B1.out.size; omega
      have m2 : w2.heap.size ≠ w.heap.size := by have := B1.out.size; omega
      have hcp := O4.out.cap
      unfold maxLen at hcp
      have hg0 : decide ((0 : Int) < ((n2 : Nat) : Int)) = true := by simp <;> omega
      clear p0 p1 pf r0 r1 rf
      have p0 := P4.out.cell (i := 0) rfl
      (go_wp2_with fail); (go_at_call 63; refine (pick_c g _ _ A n1 c1 xs1 _ D4.out (by omega)).mono ?_; rintro e w9 ⟨_, q9, rfl, ⟨x9, rfl, l9, u9⟩, d9, e9, f9, g9⟩; have P9 := Lib.hid (P4.out.other g9 (by simp <;> omega)); have R9 := Lib.hid (R4.out.other g9 (by simp <;> omega)); have O9 := Lib.hid (O4.out.top g9 (by omega)); have G9 := Lib.hid (gr_via G4.out g9); have hs9 := g9.size; clear d9 g9 u9)
      clear p0
      have p0 := P9.out.cell (i := 0) rfl
      have p1 := P9.out.cell (i := 1) rfl
      have pf := P9.out.free
      have r0 := R9.out.cell (i := 0) rfl
      have r1 := R9.out.cell (i := 1) rfl
      have rf := R9.out.free
      by_cases hx9 : x9 = 0
      · subst hx9
        obtain ⟨g8, q8, TA8, tc8, hA8, hg81, hg82, hg83, hq8, hqv8, c80, _, _, _, cf8, _⟩ := O9.out.at_ (k := n2 - 1) (by omega)
        subst hA8
        have hne8 := O9.out.ne_blk P9.out (by decide)
        have hne9 : g8 ≠ w.heap.size := by have := B1.out.size; omega
        have hne80 := Ne.symm hne8
        have hne90 := Ne.symm hne9
        have i8 : (((n2 : Nat) : Int) - 1).toNat = n2 - 1 := by omega
        have i80 : (0 : Int) ≤ ((n2 : Nat) : Int) - 1 := by omega
        have i81 : ((n2 : Nat) : Int) - 1 < ((n2 : Nat) : Int) := by omega
        have O10 := Lib.hid (O9.out.put1 (by decide) hq8 y2)
        have L10 := Lib.hid (ls_setT L2.out hq8 (q := (⟨y2, q8.1.lo, q8.1.hi, q8.1.ts⟩, q8.2)) rfl)
        clear hq8 hqv8
        have Gx := Lib.hid (gr_set G9.out (p := ⟨g8, (n2 - 1) * 4, none⟩) (.inr (by simp <;> omega)) (.int .i64 y2))
        go_wp2
        refine bodyPost_ret (v := .agg #[.slice (some ⟨g8, 0, none⟩) n2 c2, .int .i64 y2]) (by simp [results, Tryd.results36, go_sem, p0, p1, pf, r0, r1, rf, m1, m2, hne8, hne9, hne80, hne90]) rfl ?_
        go_light
        have hb := B1.out.trans (gr_below Gx.out (by omega) (by have := B1.out.size; omega))
        refine ⟨(some ⟨g8, 0, none⟩), n2, c2, _, y2, rfl, ?_, by omega, L10.out, ?_⟩
        · refine OP.wide (lo := w1.heap.size) (hi := w9.heap.size) ?_ (by have := B1.out.size; omega) (by (try simp) <;> omega)
          repeat (first | exact O10.out | refine OP.set_ ?_ (.inl (by have := B1.out.size; omega)) _ | refine OP.up ?_ (Below.alloc (Below.refl _ _) (Nat.le_refl _) _))
        · repeat (first | exact hb | refine Below.setCell ?_ (by (try simp) <;> omega) _ | refine Below.alloc ?_ (by (try simp) <;> omega) _)
      · have hx9' : ((x9 : Int) == 0) = false := by simpa using hx9
        clear hx9
        go_wp2
        refine bodyPost_ret (v := .agg #[.slice A2 n2 c2, .int .i64 y2]) (by simp [results, Tryd.results36, go_sem, p0, p1, pf, r0, r1, rf, m1, m2]) rfl ?_
        go_light
        have hb := B1.out.trans (gr_below G9.out (by omega) (by have := B1.out.size; omega))
        refine ⟨A2, n2, c2, qs, y2, rfl, ?_, by omega, L2.out, ?_⟩
        · refine OP.wide (lo := w1.heap.size) (hi := w9.heap.size) ?_ (by have := B1.out.size; omega) (by (try simp) <;> omega)
          repeat (first | exact O9.out | refine OP.set_ ?_ (.inl (by have := B1.out.size; omega)) _ | refine OP.up ?_ (Below.alloc (Below.refl _ _) (Nat.le_refl _) _))
        · repeat (first | exact hb | refine Below.setCell ?_ (by (try simp) <;> omega) _ | refine Below.alloc ?_ (by (try simp) <;> omega) _)
  · have ha : (decide ((0 : Int) < (n2 : Int)) && decide ((n2 : Int) < 5)) = false := by simp; omega
    have hb1 : n2 = 0 ∨ 5 ≤ n2 := by omega
    clear hA ha
    rcases hb1 with h0 | h5
    · have ha1 : decide ((0 : Int) < (n2 : Int)) = false := by simp; omega
      clear ha1
      clear p0
      subst hw3
      subst h0
      have r0 := R2.out.cell (i := 0) rfl
      have r1 := R2.out.cell (i := 1) rfl
      have rf := R2.out.free
      have m1 : w.heap.size ≠ w2.heap.size := by have := B1.out.size; omega
      have m2 : w2.heap.size ≠ w.heap.size := by have := B1.out.size; omega
      have m3 : w.heap.size < w2.heap.size := by have := B1.out.size; omega
      have hg0 : decide ((0 : Int) < ((0 : Nat) : Int)) = false := by simp
      go_wp2
      refine bodyPost_ret (v := .agg #[.slice A2 0 c2, .int .i64 y2]) (by simp [results, Tryd.results36, go_sem, r0, r1, rf, m1, m2, m3]) rfl ?_
      go_light
      have hb := B1.out.trans (gr_below G2.out (by omega) (by have := B1.out.size; omega))
      refine ⟨A2, 0, c2, qs, y2, rfl, ?_, by omega, L2.out, ?_⟩
      · refine OP.wide (lo := w1.heap.size) (hi := w2.heap.size) ?_ (by have := B1.out.size; omega) (by (try simp) <;> omega)
        repeat (first | exact O2.out | refine OP.set_ ?_ (.inl (by have := B1.out.size; omega)) _ | refine OP.up ?_ (Below.alloc (Below.refl _ _) (Nat.le_refl _) _))
      · repeat (first | exact hb | refine Below.setCell ?_ (by (try simp) <;> omega) _ | refine Below.alloc ?_ (by (try simp) <;> omega) _)
    · have ha2 : decide ((n2 : Int) < 5) = false := by simp; omega
      have p0 := P3.out.cell (i := 0) rfl
      have p1 := P3.out.cell (i := 1) rfl
      have pf := P3.out.free
      have r0 := R3.out.cell (i := 0) rfl
      have r1 := R3.out.cell (i := 1) rfl
      have rf := R3.out.free
      have m1 : w.heap.size ≠ w2.heap.size := by have := B1.out.size; omega
      have m2 : w2.heap.size ≠ w.heap.size := by have := B1.out.size; omega
      have hcp := O3.out.cap
      unfold maxLen at hcp
      have hg0 : decide ((0 : Int) < ((n2 : Nat) : Int)) = true := by simp <;> omega
      clear p0 p1 pf r0 r1 rf
      have p0 := P3.out.cell (i := 0) rfl
      go_wp2_with fail
      rw [← hw3]
      clear hw3 hP2
      (go_wp2_with fail); (go_at_call 63; refine (pick_c g _ _ A n1 c1 xs1 _ D3.out (by omega)).mono ?_; rintro e w9 ⟨_, q9, rfl, ⟨x9, rfl, l9, u9⟩, d9, e9, f9, g9⟩; have P9 := Lib.hid (P3.out.other g9 (by simp <;> omega)); have R9 := Lib.hid (R3.out.other g9 (by simp <;> omega)); have O9 := Lib.hid (O3.out.top g9 (by omega)); have G9 := Lib.hid (gr_via G3.out g9); have hs9 := g9.size; clear d9 g9 u9)
      clear p0
      have p0 := P9.out.cell (i := 0) rfl
      have p1 := P9.out.cell (i := 1) rfl
      have pf := P9.out.free
      have r0 := R9.out.cell (i := 0) rfl
      have r1 := R9.out.cell (i := 1) rfl
      have rf := R9.out.free
      by_cases hx9 : x9 = 0
      · subst hx9
        obtain ⟨g8, q8, TA8, tc8, hA8, hg81, hg82, hg83, hq8, hqv8, c80, _, _, _, cf8, _⟩ := O9.out.at_ (k := n2 - 1) (by omega)
        subst hA8
        have hne8 := O9.out.ne_blk P9.out (by decide)
        have hne9 : g8 ≠ w.heap.size := by have := B1.out.size; omega
        have hne80 := Ne.symm hne8
        have hne90 := Ne.symm hne9
        have i8 : (((n2 : Nat) : Int) - 1).toNat = n2 - 1 := by omega
        have i80 : (0 : Int) ≤ ((n2 : Nat) : Int) - 1 := by omega
        have i81 : ((n2 : Nat) : Int) - 1 < ((n2 : Nat) : Int) := by omega
        have O10 := Lib.hid (O9.out.put1 (by decide) hq8 y2)
        have L10 := Lib.hid (ls_setT L2.out hq8 (q := (⟨y2, q8.1.lo, q8.1.hi, q8.1.ts⟩, q8.2)) rfl)
        clear hq8 hqv8
        have Gx := Lib.hid (gr_set G9.out (p := ⟨g8, (n2 - 1) * 4, none⟩) (.inr (by simp <;> omega)) (.int .i64 y2))
        go_wp2
        refine bodyPost_ret (v := .agg #[.slice (some ⟨g8, 0, none⟩) n2 c2, .int .i64 y2]) (by simp [results, Tryd.results36, go_sem, p0, p1, pf, r0, r1, rf, m1, m2, hne8, hne9, hne80, hne90]) rfl ?_
        go_light
        have hb := B1.out.trans (gr_below Gx.out (by omega) (by have := B1.out.size; omega))
        refine ⟨(some ⟨g8, 0, none⟩), n2, c2, _, y2, rfl, ?_, by omega, L10.out, ?_⟩
        · refine OP.wide (lo := w1.heap.size) (hi := w9.heap.size) ?_ (by have := B1.out.size; omega) (by (try simp) <;> omega)
          repeat (first | exact O10.out | refine OP.set_ ?_ (.inl (by have := B1.out.size; omega)) _ | refine OP.up ?_ (Below.alloc (Below.refl _ _) (Nat.le_refl _) _))
        · repeat (first | exact hb | refine Below.setCell ?_ (by (try simp) <;> omega) _ | refine Below.alloc ?_ (by (try simp) <;> omega) _)
      · have hx9' : ((x9 : Int) == 0) = false := by simpa using hx9
        clear hx9
        go_wp2
        refine bodyPost_ret (v := .agg #[.slice A2 n2 c2, .int .i64 y2]) (by simp [results, Tryd.results36, go_sem, p0, p1, pf, r0, r1, rf, m1, m2]) rfl ?_
        go_light
        have hb := B1.out.trans (gr_below G9.out (by omega) (by have := B1.out.size; omega))
        refine ⟨A2, n2, c2, qs, y2, rfl, ?_, by omega, L2.out, ?_⟩
        · refine OP.wide (lo := w1.heap.size) (hi := w9.heap.size) ?_ (by have := B1.out.size; omega) (by (try simp) <;> omega)
          repeat (first | exact O9.out | refine OP.set_ ?_ (.inl (by have := B1.out.size; omega)) _ | refine OP.up ?_ (Below.alloc (Below.refl _ _) (Nat.le_refl _) _))
        · repeat (first | exact hb | refine Below.setCell ?_ (by (try simp) <;> omega) _ | refine Below.alloc ?_ (by (try simp) <;> omega) _)
end Go.Proofs.YtljgaepgblakhaaDoor
